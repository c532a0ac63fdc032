/- Hashes: Hash and Chain of package sums and of its reference. -/
import Derived.Test.YtpimmdmcmccbpaaDoorGC
import Derived.Test.YtpimmdmcmccbpaaDoorShelf
import Derived.Laws.BytesArg
import Derived.Laws.OwnMore
import Derived.Laws.IdiomStrings
import Derived.Lib.ItoaNum
import Derived.Lib.ItoaMem
import Derived.Lib.Repeat
namespace Go.Proofs.YtpimmdmcmccbpaaDoor
open Go.RowKit
set_option linter.unusedVariables false

/-- One byte of a hash. -/
def hst (x b : Int) : Int := IntKind.u64.wrap (bits BinOp.xor IntKind.u64 x b * 1099511628211)
theorem wrap_by (s : ByteArray) (k : Nat) : IntKind.u64.wrap (bt s k) = bt s k := by
  have := bt_range s k
  simp only [IntKind.wrap, IntKind.bits, IntKind.signed, Bool.false_and, Bool.false_eq_true, if_false]
  omega
def hN (s : ByteArray) : Nat → Int
  | 0 => 14695981039346656037
  | k + 1 => hst (hN s k) (bt s k)
/-- The hash of a string. -/
def hsS (s : ByteArray) : Int := hN s s.size
/-- The eight bytes of a number. -/
def b8 (p : Int) : List Int := [p / 72057594037927936, p / 281474976710656 % 256, p / 1099511627776 % 256, p / 4294967296 % 256, p / 16777216 % 256, p / 65536 % 256, p / 256 % 256, p % 256]
/-- The hash of a string after a hash. -/
def chS (p : Int) (s : ByteArray) : Int := hsS (strOfNums (b8 p) ++ s)

set_option maxHeartbeats 2000000 in
theorem rhash_any (s : ByteArray) (hsz : (s.size : Int) ≤ 9223372036854775807) (w : World) :
    Calls Tryd.prog 57 #[.string s] w fun e w' => e = .returned (.int .u64 (hsS s)) ∧ w' = w := by
  go_enter Tryd.func57, Tryd.ntmps57
  go_wp2_with fail
  go_loopw [3, 4] (fun n i wr => ∃ (k : Nat) (x : Int), i = .int .i64 k ∧ k ≤ s.size ∧ n = .int .u64 x ∧ Hid (x = hN s k) ∧ wr = w) (fun _ i _ => s.size - (intOf i).toNat)
  case atStart => exact ⟨0, _, rfl, by omega, rfl, rfl, rfl⟩
  case round =>
    obtain ⟨k, x, rfl, hk, rfl, hx, rfl⟩ := hrel
    by_cases hlt : k < s.size
    · have zk : (k : Int) < (s.size : Int) := by omega
      have hb := bt_get s k hlt
      go_wp2_with fail
      go_roundw
      case rel => exact ⟨k + 1, _, by go_num, by omega, rfl, by show _ = hst (hN s k) (bt s k); rw [← hx.out, hst, wrap_by], trivial⟩
      case measure => simp [intOf]; omega
    · have hE : Hid (x = hsS s) := by show _ = _; rw [hx.out, hsS]; congr 1; omega
      go_wp2_with fail
      go_ret
      exact ⟨ret_int' hE.out, rfl⟩

noncomputable def cpW (W : World) (n : Nat) : Nat := grownCap W n 0 5
noncomputable def wBy (W : World) (s : ByteArray) : World := W.drew.alloc (.cells (bytesRow s (cpW W s.size)) 5 ((bytesRow s (cpW W s.size)).size, (bytesRow s (cpW W s.size)).size + 1))
theorem conv_by (s : ByteArray) (W : World) : (convert 9 109 (.string s)).run Tryd.prog W = .ok (.slice (some ⟨W.heap.size, 0, none⟩) s.size (cpW W s.size)) (wBy W s) :=
  run_bytes_of_string W 9 109 5 s Tryd.underlying9 Tryd.underlying109 Tryd.underlying5
theorem wBy_cell (s : ByteArray) (W : World) (j : Nat) (hj : j < s.size) : (wBy W s).cell? ⟨W.heap.size, j, none⟩ = some (.int .u8 (bt s j)) := by
  have h1 := bytesRow_at s (cpW W s.size) j hj
  have h3 : (s.data[j].toNat : Int) = bt s j := bt_get s j hj
  rw [h3] at h1
  have e : (wBy W s).heap[W.heap.size]? = some (.cells (bytesRow s (cpW W s.size)) 5 ((bytesRow s (cpW W s.size)).size, (bytesRow s (cpW W s.size)).size + 1)) := by
    show (W.heap.push _)[W.heap.size]? = _
    simp
  unfold World.cell?
  rw [e]
  simp [h1]
theorem wBy_below (s : ByteArray) (W : World) : Below W.heap.size W (wBy W s) := ((Below.refl _ _).drew).alloc (Nat.le_refl _) _
set_option maxHeartbeats 2000000 in
theorem hash_any (s : ByteArray) (hsz : (s.size : Int) ≤ 9223372036854775807) (w : World) :
    Calls Tryd.prog 64 #[.string s] w fun e w' => e = .returned (.int .u64 (hsS s)) ∧ Below w.heap.size w w' := by
  have hcv := conv_by s w
  have HC := Lib.hid (fun j hj => wBy_cell s w j hj)
  have HB := Lib.hid (wBy_below s w)
  generalize wBy w s = w1 at *
  generalize cpW w s.size = cap at *
  go_enter Tryd.func64, Tryd.ntmps64
  go_wp2_with fail
  go_loopw [3, 9] (fun n i wr => ∃ (k : Nat) (x : Int), i = .int .i64 k ∧ k ≤ s.size ∧ n = .int .u64 x ∧ Hid (x = hN s k) ∧ wr = w1) (fun _ i _ => s.size - (intOf i).toNat)
  case atStart => exact ⟨0, _, rfl, by omega, rfl, rfl, rfl⟩
  case round =>
    clear hcv
    obtain ⟨k, x, rfl, hk, rfl, hx, rfl⟩ := hrel
    by_cases hlt : k < s.size
    · have zk : (k : Int) < (s.size : Int) := by omega
      have hc := HC.out k hlt
      have hb := bt_range s k
      obtain ⟨y, hy⟩ : ∃ y, bt s k = y := ⟨_, rfl⟩
      rw [hy] at hc hb
      have HY := Lib.hid hy
      clear hy
      go_wp2_with fail
      go_roundw
      case rel => exact ⟨k + 1, _, by go_num, by omega, rfl, by show _ = hst (hN s k) (bt s k); rw [← hx.out, HY.out, hst], trivial⟩
      case measure => simp [intOf]; omega
    · have hE : Hid (x = hsS s) := by show _ = _; rw [hx.out, hsS]; congr 1; omega
      go_wp2_with fail
      go_ret
      exact ⟨ret_int' hE.out, HB.out⟩

theorem ba_sizeApp (a b : ByteArray) : (a ++ b).size = a.size + b.size := by simp
theorem conv_8 (W : World) (b c : Nat) (x0 x1 x2 x3 x4 x5 x6 x7 : Int) (h : W.heap[b]? = some (.cells #[.int .u8 x0, .int .u8 x1, .int .u8 x2, .int .u8 x3, .int .u8 x4, .int .u8 x5, .int .u8 x6, .int .u8 x7] 108 (0, 0))) :
    (convert 109 9 (.slice (some ⟨b, 0, none⟩) 8 c)).run Tryd.prog W = .ok (.string (strOfNums [x0, x1, x2, x3, x4, x5, x6, x7])) W := by
  refine run_convert_bytes_arg _ 109 5 Tryd.underlying109 Tryd.underlying5 b 0 8 c [x0, x1, x2, x3, x4, x5, x6, x7] rfl (fun i hi => ?_) 9 Tryd.underlying9
  have hc := cell_of_row W b (0 + i) _ _ _ h
  rw [hc]
  match i, hi with
  | 0, _ => rfl | 1, _ => rfl | 2, _ => rfl | 3, _ => rfl | 4, _ => rfl | 5, _ => rfl | 6, _ => rfl | 7, _ => rfl
  | i + 8, hi => omega
set_option maxRecDepth 100000 in
set_option maxHeartbeats 4000000 in
theorem chain_any (p : Int) (hp : 0 ≤ p ∧ p ≤ 18446744073709551615) (s : ByteArray) (hsz : (s.size : Int) ≤ 1000000) (w : World) :
    Calls Tryd.prog 51 #[.int .u64 p, .string s] w fun e w' => e = .returned (.int .u64 (chS p s)) ∧ Below w.heap.size w w' := by
  obtain ⟨p0, p1⟩ := hp
  have hbb : ∀ o, Below w.heap.size w (w.alloc o) := fun o => (Below.refl _ _).alloc (Nat.le_refl _) o
  go_enter Tryd.func51, Tryd.ntmps51
  go_wp2_with fail
  refine wp_loop_rounds 9 ?_
  iterate 8 (rw [rounds_succ]; go_wp2_with fail)
  rw [rounds_succ]
  have hcv := conv_8 (w.alloc (.cells #[.int .u8 (p / 72057594037927936), .int .u8 (p / 281474976710656 % 256), .int .u8 (p / 1099511627776 % 256), .int .u8 (p / 4294967296 % 256), .int .u8 (p / 16777216 % 256), .int .u8 (p / 65536 % 256), .int .u8 (p / 256 % 256), .int .u8 (p % 256)] 108)) w.heap.size 8 _ _ _ _ _ _ _ _ (heap_alloc_new w _)
  have hb1 := hbb (.cells #[.int .u8 (p / 72057594037927936), .int .u8 (p / 281474976710656 % 256), .int .u8 (p / 1099511627776 % 256), .int .u8 (p / 4294967296 % 256), .int .u8 (p / 16777216 % 256), .int .u8 (p / 65536 % 256), .int .u8 (p / 256 % 256), .int .u8 (p % 256)] 108)
  obtain ⟨T, hT⟩ : ∃ T, strOfNums (b8 p) = T := ⟨_, rfl⟩
  have hT8 : T.size = 8 := by rw [← hT]; rfl
  have hcv2 := hcv
  rw [show strOfNums [p / 72057594037927936, p / 281474976710656 % 256, p / 1099511627776 % 256, p / 4294967296 % 256, p / 16777216 % 256, p / 65536 % 256, p / 256 % 256, p % 256] = T from hT] at hcv2
  clear hcv
  have HE : Hid (hsS (T ++ s) = chS p s) := by show _ = _; rw [chS, hT]
  have HH := Lib.hid (hash_any (T ++ s) (by rw [ba_sizeApp, hT8]; omega))
  clear hT
  go_wp2_with fail
  (with_reducible refine (HH.out _).mono ?_)
  rintro e w2 ⟨rfl, hb⟩
  go_wp2_with fail
  go_ret
  exact ⟨ret_int' HE.out, below_old hb1 hb⟩

/-- The reference's bytes while they are appended. -/
def u8s (l : List Int) : List Value := l.map (.int .u8)
theorem u8s_snoc (l : List Int) (x : Int) : u8s (l ++ [x]) = u8s l ++ [.int .u8 x] := by simp [u8s]
theorem infoB : (Tryd.prog.info? 5).map (fun i => (i.zero, i.size, i.bytes)) = some (some (.int .u8 0), 1, 1) := by kernel_rfl
theorem row_conv {W : World} {B : Nat} {v : Value} {l : List Int} (h : W.ownsRow B 5 1 v l.length (u8s l)) (hl : 0 < l.length) : (convert 109 9 v).run Tryd.prog W = .ok (.string (strOfNums l)) W := by
  rcases h.2 with ⟨_, h0⟩ | ⟨g, cap, cur, rfl, _⟩
  · omega
  · refine run_convert_bytes_arg _ 109 5 Tryd.underlying109 Tryd.underlying5 g 0 l.length cap l rfl (fun i hi => ?_) 9 Tryd.underlying9
    rw [Nat.zero_add, h.cellAt i (by omega)]
    simp [u8s, hi]
set_option maxRecDepth 100000 in
set_option maxHeartbeats 8000000 in
theorem rbytes_any (p : Int) (hp : 0 ≤ p ∧ p ≤ 18446744073709551615) (w : World) :
    Calls Tryd.prog 58 #[.int .u64 p] w fun e w' => e = .returned (.string (strOfNums (b8 p))) ∧ Below w.heap.size w w' := by
  obtain ⟨p0, p1⟩ := hp
  go_enter Tryd.func58, Tryd.ntmps58
  go_wp2_with fail
  go_loopw [3, 4] (fun v i wr => ∃ k : Nat, i = .int .i64 k ∧ k ≤ 8 ∧ wr.ownsRow w.heap.size 5 1 v k (u8s ((b8 p).take k)) ∧ Below w.heap.size w wr) (fun _ i _ => 8 - (intOf i).toNat)
  case atStart => exact ⟨0, rfl, by omega, World.ownsRow_nil _ _ _ _, Below.refl _ _⟩
  case round =>
    obtain ⟨k, rfl, hk, hown, hB⟩ := hrel
    have hsz2 := hB.size
    have h : k = 0 ∨ k = 1 ∨ k = 2 ∨ k = 3 ∨ k = 4 ∨ k = 5 ∨ k = 6 ∨ k = 7 ∨ k = 8 := by omega
    rcases h with rfl | rfl | rfl | rfl | rfl | rfl | rfl | rfl | rfl
    · have hrow := hown.alloc (.cells #[.int .u8 (p / 72057594037927936)] 5)
      go_wp2_with (at_builtin; refine wpList_append_c rfl (.tmp 9) (.tmp 17) 109 rfl w.heap.size 5 (.int .u8 0) 1 1 Tryd.underlying109 infoB rfl (by decide) _ _ _ rfl hrow ⟨wr.heap.size, 0, none⟩ 1 1 [.int .u8 (p / 72057594037927936)] rfl rfl (cell_one_new _ _ _) (by intro u hu; simp at hu; subst hu; rfl) (by decide) (by decide) (by simp; omega) ?_)
      intro v' w2 hown' hgrow
      have hB2 := (hB.alloc hsz2 _).grown hgrow (by simp; omega) (fun j hj => (hrow.lt j hj).1)
      clear hgrow hrow
      go_wp2_with fail
      go_roundw
      case rel => exact ⟨0 + 1, by go_num, by omega, by rw [show (b8 p).take (0 + 1) = (b8 p).take 0 ++ [p / 72057594037927936] from rfl, u8s_snoc]; exact hown', hB2⟩
      case measure => simp [intOf]
    · have hrow := hown.alloc (.cells #[.int .u8 (p / 281474976710656 % 256)] 5)
      go_wp2_with (at_builtin; refine wpList_append_c rfl (.tmp 9) (.tmp 17) 109 rfl w.heap.size 5 (.int .u8 0) 1 1 Tryd.underlying109 infoB rfl (by decide) _ _ _ rfl hrow ⟨wr.heap.size, 0, none⟩ 1 1 [.int .u8 (p / 281474976710656 % 256)] rfl rfl (cell_one_new _ _ _) (by intro u hu; simp at hu; subst hu; rfl) (by decide) (by decide) (by simp; omega) ?_)
      intro v' w2 hown' hgrow
      have hB2 := (hB.alloc hsz2 _).grown hgrow (by simp; omega) (fun j hj => (hrow.lt j hj).1)
      clear hgrow hrow
      go_wp2_with fail
      go_roundw
      case rel => exact ⟨1 + 1, by go_num, by omega, by rw [show (b8 p).take (1 + 1) = (b8 p).take 1 ++ [p / 281474976710656 % 256] from rfl, u8s_snoc]; exact hown', hB2⟩
      case measure => simp [intOf]
    · have hrow := hown.alloc (.cells #[.int .u8 (p / 1099511627776 % 256)] 5)
      go_wp2_with (at_builtin; refine wpList_append_c rfl (.tmp 9) (.tmp 17) 109 rfl w.heap.size 5 (.int .u8 0) 1 1 Tryd.underlying109 infoB rfl (by decide) _ _ _ rfl hrow ⟨wr.heap.size, 0, none⟩ 1 1 [.int .u8 (p / 1099511627776 % 256)] rfl rfl (cell_one_new _ _ _) (by intro u hu; simp at hu; subst hu; rfl) (by decide) (by decide) (by simp; omega) ?_)
      intro v' w2 hown' hgrow
      have hB2 := (hB.alloc hsz2 _).grown hgrow (by simp; omega) (fun j hj => (hrow.lt j hj).1)
      clear hgrow hrow
      go_wp2_with fail
      go_roundw
      case rel => exact ⟨2 + 1, by go_num, by omega, by rw [show (b8 p).take (2 + 1) = (b8 p).take 2 ++ [p / 1099511627776 % 256] from rfl, u8s_snoc]; exact hown', hB2⟩
      case measure => simp [intOf]
    · have hrow := hown.alloc (.cells #[.int .u8 (p / 4294967296 % 256)] 5)
      go_wp2_with (at_builtin; refine wpList_append_c rfl (.tmp 9) (.tmp 17) 109 rfl w.heap.size 5 (.int .u8 0) 1 1 Tryd.underlying109 infoB rfl (by decide) _ _ _ rfl hrow ⟨wr.heap.size, 0, none⟩ 1 1 [.int .u8 (p / 4294967296 % 256)] rfl rfl (cell_one_new _ _ _) (by intro u hu; simp at hu; subst hu; rfl) (by decide) (by decide) (by simp; omega) ?_)
      intro v' w2 hown' hgrow
      have hB2 := (hB.alloc hsz2 _).grown hgrow (by simp; omega) (fun j hj => (hrow.lt j hj).1)
      clear hgrow hrow
      go_wp2_with fail
      go_roundw
      case rel => exact ⟨3 + 1, by go_num, by omega, by rw [show (b8 p).take (3 + 1) = (b8 p).take 3 ++ [p / 4294967296 % 256] from rfl, u8s_snoc]; exact hown', hB2⟩
      case measure => simp [intOf]
    · have hrow := hown.alloc (.cells #[.int .u8 (p / 16777216 % 256)] 5)
      go_wp2_with (at_builtin; refine wpList_append_c rfl (.tmp 9) (.tmp 17) 109 rfl w.heap.size 5 (.int .u8 0) 1 1 Tryd.underlying109 infoB rfl (by decide) _ _ _ rfl hrow ⟨wr.heap.size, 0, none⟩ 1 1 [.int .u8 (p / 16777216 % 256)] rfl rfl (cell_one_new _ _ _) (by intro u hu; simp at hu; subst hu; rfl) (by decide) (by decide) (by simp; omega) ?_)
      intro v' w2 hown' hgrow
      have hB2 := (hB.alloc hsz2 _).grown hgrow (by simp; omega) (fun j hj => (hrow.lt j hj).1)
      clear hgrow hrow
      go_wp2_with fail
      go_roundw
      case rel => exact ⟨4 + 1, by go_num, by omega, by rw [show (b8 p).take (4 + 1) = (b8 p).take 4 ++ [p / 16777216 % 256] from rfl, u8s_snoc]; exact hown', hB2⟩
      case measure => simp [intOf]
    · have hrow := hown.alloc (.cells #[.int .u8 (p / 65536 % 256)] 5)
      go_wp2_with (at_builtin; refine wpList_append_c rfl (.tmp 9) (.tmp 17) 109 rfl w.heap.size 5 (.int .u8 0) 1 1 Tryd.underlying109 infoB rfl (by decide) _ _ _ rfl hrow ⟨wr.heap.size, 0, none⟩ 1 1 [.int .u8 (p / 65536 % 256)] rfl rfl (cell_one_new _ _ _) (by intro u hu; simp at hu; subst hu; rfl) (by decide) (by decide) (by simp; omega) ?_)
      intro v' w2 hown' hgrow
      have hB2 := (hB.alloc hsz2 _).grown hgrow (by simp; omega) (fun j hj => (hrow.lt j hj).1)
      clear hgrow hrow
      go_wp2_with fail
      go_roundw
      case rel => exact ⟨5 + 1, by go_num, by omega, by rw [show (b8 p).take (5 + 1) = (b8 p).take 5 ++ [p / 65536 % 256] from rfl, u8s_snoc]; exact hown', hB2⟩
      case measure => simp [intOf]
    · have hrow := hown.alloc (.cells #[.int .u8 (p / 256 % 256)] 5)
      go_wp2_with (at_builtin; refine wpList_append_c rfl (.tmp 9) (.tmp 17) 109 rfl w.heap.size 5 (.int .u8 0) 1 1 Tryd.underlying109 infoB rfl (by decide) _ _ _ rfl hrow ⟨wr.heap.size, 0, none⟩ 1 1 [.int .u8 (p / 256 % 256)] rfl rfl (cell_one_new _ _ _) (by intro u hu; simp at hu; subst hu; rfl) (by decide) (by decide) (by simp; omega) ?_)
      intro v' w2 hown' hgrow
      have hB2 := (hB.alloc hsz2 _).grown hgrow (by simp; omega) (fun j hj => (hrow.lt j hj).1)
      clear hgrow hrow
      go_wp2_with fail
      go_roundw
      case rel => exact ⟨6 + 1, by go_num, by omega, by rw [show (b8 p).take (6 + 1) = (b8 p).take 6 ++ [p / 256 % 256] from rfl, u8s_snoc]; exact hown', hB2⟩
      case measure => simp [intOf]
    · have hrow := hown.alloc (.cells #[.int .u8 (p % 256)] 5)
      go_wp2_with (at_builtin; refine wpList_append_c rfl (.tmp 9) (.tmp 17) 109 rfl w.heap.size 5 (.int .u8 0) 1 1 Tryd.underlying109 infoB rfl (by decide) _ _ _ rfl hrow ⟨wr.heap.size, 0, none⟩ 1 1 [.int .u8 (p % 256)] rfl rfl (cell_one_new _ _ _) (by intro u hu; simp at hu; subst hu; rfl) (by decide) (by decide) (by simp; omega) ?_)
      intro v' w2 hown' hgrow
      have hB2 := (hB.alloc hsz2 _).grown hgrow (by simp; omega) (fun j hj => (hrow.lt j hj).1)
      clear hgrow hrow
      go_wp2_with fail
      go_roundw
      case rel => exact ⟨7 + 1, by go_num, by omega, by rw [show (b8 p).take (7 + 1) = (b8 p).take 7 ++ [p % 256] from rfl, u8s_snoc]; exact hown', hB2⟩
      case measure => simp [intOf]
    · have hcv := row_conv (l := b8 p) hown (show 0 < 8 by decide)
      go_wp2_with fail
      go_ret
      exact ⟨rfl, hB⟩
theorem rchain_any (p : Int) (hp : 0 ≤ p ∧ p ≤ 18446744073709551615) (s : ByteArray) (hsz : (s.size : Int) ≤ 1000000) (w : World) :
    Calls Tryd.prog 46 #[.int .u64 p, .string s] w fun e w' => e = .returned (.int .u64 (chS p s)) ∧ Below w.heap.size w w' := by
  have HB := Lib.hid (rbytes_any p hp)
  obtain ⟨T, hT⟩ : ∃ T, strOfNums (b8 p) = T := ⟨_, rfl⟩
  have hT8 : T.size = 8 := by rw [← hT]; rfl
  rw [hT] at HB
  have HE : Hid (hsS (T ++ s) = chS p s) := by show _ = _; rw [chS, hT]
  have HH := Lib.hid (rhash_any (T ++ s) (by rw [ba_sizeApp, hT8]; omega))
  clear hT
  go_enter Tryd.func46, Tryd.ntmps46
  go_wp2_with fail
  (with_reducible refine (HB.out _).mono ?_)
  rintro e w1 ⟨rfl, hb⟩
  go_wp2_with fail
  (with_reducible refine (HH.out _).mono ?_)
  rintro e w2 ⟨rfl, rfl⟩
  go_wp2_with fail
  go_ret
  exact ⟨ret_int' HE.out, hb⟩
end Go.Proofs.YtpimmdmcmccbpaaDoor
