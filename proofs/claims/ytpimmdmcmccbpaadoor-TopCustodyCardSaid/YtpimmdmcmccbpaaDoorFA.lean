/- sawmilltop: TopCustody, what follows its first loop. -/
import Derived.Test.YtpimmdmcmccbpaaDoorGL
import Derived.Test.YtpimmdmcmccbpaaDoorF5
namespace Go.Proofs.YtpimmdmcmccbpaaDoor
open Go.RowKit
set_option linter.unusedVariables false
open Cu (Lk Ls)
/-- What follows the first loop of a body. -/
def isLoop : Code → Bool
  | .loop _ => true
  | .block _ c => isLoop c
  | .seq _ c => isLoop c
  | _ => false
def restAfter : Code → Option Code
  | .seq a b => if isLoop a then some b else restAfter b
  | _ => none
noncomputable def rest27 : Code := ((Tryd.f4.body.bind restAfter).getD .skip)
set_option maxRecDepth 1000000 in
set_option maxHeartbeats 64000000 in
theorem custody_rest (w wr : World) (L : Ls) (R : Pt.Rg) (k : Nat) (hk40 : k ≤ 40) (HM : Hid (TwoM w wr (w.heap.size + 2) (w.heap.size + 3) L R)) (HBO : Hid (Cu.Both L R k)) (HT : Hid (TabOk w)) (s0 s1 s2 s5 s6 s7 s8 s9 s10 s11 s12 s13 s14 s15 s16 s17 s18 s19 s20 s21 s22 s23 s24 s25 s26 s27 s28 s29 s30 s31 s32 s33 s34 s35 s36 s37 s38 s39 s40 s41 s42 s43 s44 s45 s46 s47 s48 s49 s50 s51 s52 s53 s54 s55 s56 s57 s58 s59 s60 s61 s62 s63 s64 s65 s66 s67 s68 s69 s70 s71 s72 s73 s74 s75 s76 s77 s78 s79 s80 s81 s82 s83 s84 s85 s86 s87 s88 s89 s90 s91 s92 s93 s94 s95 s96 s97 s98 s99 s100 s101 s102 s103 s104 s105 s106 s107 s108 s109 s110 s111 s112 s113 s114 s115 s116 s117 s118 s119 s120 s121 s122 s123 s124 s125 s126 s127 s128 s129 s130 s131 s132 s133 s134 s135 s136 s137 s138 s139 s140 s141 s142 s143 s144 s145 s146 s147 s148 s149 s150 s151 s152 s153 s154 s155 s156 s157 s158 s159 s160 s161 s162 s163 s164 s165 s166 s167 s168 s169 s170 s171 s172 s173 s174 s175 s176 s177 s178 s179 s180 s181 s182 s183 s184 s185 s186 s187 s188 s189 s190 s191 s192 s193 s194 s195 s196 s197 s198 s199 s200 s201 s202 s203 s204 s205 s206 s207 s208 s209 s210 s211 s212 s213 s214 s215 s216 s217 s218 s219 s220 s221 s222 s223 s224 s225 s226 s227 s228 s229 s230 s231 s232 s233 s234 s235 s236 s237 s238 s239 s240 s241 s242 s243 s244 s245 s246 s247 s248 s249 s250 s251 s252 s253 s254 s255 s256 s257 s258 s259 s260 s261 s262 s263 s264 s265 s266 s267 s268 s269 s270 s271 s272 s273 s274 s275 s276 s277 s278 s279 s280 s281 s282 s283 s284 s285 s286 s287 s288 s289 s290 s291 s292 s293 s294 s295 s296 s297 s298 s299 s300 s301 s302 s303 s304 s305 s306 s307 s308 s309 s310 s311 s312 s313 s314 s315 s316 s317 s318 : Value) :
    rest27.wp Tryd.prog (bodyPost Tryd.prog Tryd.f4 fun e w' => e = .returned (.bool true) ∧ Below w.heap.size w w') ⟨#[s0, s1, s2, .pointer (some ⟨w.heap.size + 2, 0, none⟩), .pointer (some ⟨w.heap.size + 3, 0, none⟩), s5, s6, s7, s8, s9, s10, s11, s12, s13, s14, s15, s16, s17, s18, s19, s20, s21, s22, s23, s24, s25, s26, s27, s28, s29, s30, s31, s32, s33, s34, s35, s36, s37, s38, s39, s40, s41, s42, s43, s44, s45, s46, s47, s48, s49, s50, s51, s52, s53, s54, s55, s56, s57, s58, s59, s60, s61, s62, s63, s64, s65, s66, s67, s68, s69, s70, s71, s72, s73, s74, s75, s76, s77, s78, s79, s80, s81, s82, s83, s84, s85, s86, s87, s88, s89, s90, s91, s92, s93, s94, s95, s96, s97, s98, s99, s100, s101, s102, s103, s104, s105, s106, s107, s108, s109, s110, s111, s112, s113, s114, s115, s116, s117, s118, s119, s120, s121, s122, s123, s124, s125, s126, s127, s128, s129, s130, s131, s132, s133, s134, s135, s136, s137, s138, s139, s140, s141, s142, s143, s144, s145, s146, s147, s148, s149, s150, s151, s152, s153, s154, s155, s156, s157, s158, s159, s160, s161, s162, s163, s164, s165, s166, s167, s168, s169, s170, s171, s172, s173, s174, s175, s176, s177, s178, s179, s180, s181, s182, s183, s184, s185, s186, s187, s188, s189, s190, s191, s192, s193, s194, s195, s196, s197, s198, s199, s200, s201, s202, s203, s204, s205, s206, s207, s208, s209, s210, s211, s212, s213, s214, s215, s216, s217, s218, s219, s220, s221, s222, s223, s224, s225, s226, s227, s228, s229, s230, s231, s232, s233, s234, s235, s236, s237, s238, s239, s240, s241, s242, s243, s244, s245, s246, s247, s248, s249, s250, s251, s252, s253, s254, s255, s256, s257, s258, s259, s260, s261, s262, s263, s264, s265, s266, s267, s268, s269, s270, s271, s272, s273, s274, s275, s276, s277, s278, s279, s280, s281, s282, s283, s284, s285, s286, s287, s288, s289, s290, s291, s292, s293, s294, s295, s296, s297, s298, s299, s300, s301, s302, s303, s304, s305, s306, s307, s308, s309, s310, s311, s312, s313, s314, s315, s316, s317, s318], []⟩ wr := by
  conv => arg 2; whnf
  have hlen : L.length ≤ 40 := by have := HBO.out.len; omega
  have HGO := Lib.hid HBO.out.good
  go_wp2_with fail
  obtain ⟨⟨v0, hv0⟩, -⟩ := HM.out
  have HR := Lib.hid hv0
  have HFT := Lib.hid hv0.fit
  clear hv0
  (with_reducible refine (links_w HR).mono ?_)
  rintro e w2 ⟨vL, rfl, hrow, hb⟩
  obtain ⟨A2, c2, hv⟩ := row_form hrow
  subst hv
  have HLA := Lib.hid (row_slr hrow A2 c2 rfl)
  have HM2 := Lib.hid (HM.out.below hb)
  have HB2 := Lib.hid HM2.out.bel
  clear hrow hb HR HM
  go_wp2_with fail
  (with_reducible refine (verify_w L A2 L.length c2 (Lib.hid rfl) _ HLA HFT (by omega) (Lib.hid (HT.out.below HB2.out)) (-1) 0 (Lib.hid (Cu.vfy_good HGO.out))).mono ?_)
  rintro e w3 ⟨rfl, hb⟩
  have HLA3 := Lib.hid (HLA.out.below hb)
  have HM3 := Lib.hid (HM2.out.below hb)
  clear hb HB2 HM2 HLA
  go_wp2_with fail
  go_loopw [17] (fun i wr => ∃ (q : Nat), i = .int .i64 q ∧ q ≤ L.length ∧ Hid (Below w3.heap.size w3 wr)) (fun i _ => L.length - (intOf i).toNat)
  case atStart => exact ⟨0, rfl, by omega, Below.refl _ _⟩
  case round =>
    obtain ⟨q, rfl, hq, HB⟩ := hrel
    by_cases hql : q < L.length
    · obtain ⟨e, he⟩ : ∃ e, L[q] = e := ⟨_, rfl⟩
      have HEM : Hid (e ∈ L) := by show e ∈ L; rw [← he]; exact List.getElem_mem hql
      have HEK := Lib.hid he
      obtain ⟨T, z, htc⟩ := tcI HGO.out HFT.out HEM.out
      have HP := Lib.hid htc
      clear he htc
      have hRl := HP.out.len
      have zq : (q : Int) < (L.length : Int) := by omega
      have HMr := Lib.hid (HM3.out.below HB.out)
      obtain ⟨bb, off, hA, hbl, -⟩ := HLA3.out.link hql
      subst hA
      obtain ⟨x0, x1, x2, x3, x4, x5⟩ := link_cells (HLA3.out.below HB.out) hql HEK.out
      have hal := (Below.refl wr.heap.size wr).alloc (Nat.le_refl _) (.cells #[.string e.it, .string e.pa, .int .i64 e.ti, .int .i64 e.vo, .string e.sp, .int .u64 e.ha] 36)
      have HBX : Hid (LBox (wr.alloc (.cells #[.string e.it, .string e.pa, .int .i64 e.ti, .int .i64 e.vo, .string e.sp, .int .u64 e.ha] 36)) wr.heap.size e) := Blk.new _ _ _
      have HB4 := Lib.hid (below_old HB.out hal)
      clear hal
      have his := HP.out.fit.it
      go_wp2_with fail
      clear x0 x1 x2 x3 x4 x5 HB HMr
      generalize wr.alloc (.cells #[.string e.it, .string e.pa, .int .i64 e.ti, .int .i64 e.vo, .string e.sp, .int .u64 e.ha] 36) = w4 at *
      generalize wr.heap.size = gx at *
      have HM4 := Lib.hid (HM3.out.below HB4.out)
      obtain ⟨⟨v4, hv4⟩, -⟩ := HM4.out
      have HR4 := Lib.hid hv4
      clear hv4
      obtain ⟨y0, -, -, -, -, -⟩ := HBX.out.cells
      go_wp2_with fail
      (with_reducible refine (root_w e.it his HR4 z.it true (Lib.hid HP.out.rt) (Lib.hid HP.out.has)).mono ?_)
      rintro e' w5 ⟨rfl, hb⟩
      have HB5 := Lib.hid (below_old HB4.out hb)
      have HR5 := Lib.hid (HR4.out.below hb)
      have HBX5 : Hid (LBox w5 gx e) := LBox.below HBX.out hb
      clear hb HR4 HBX y0 HB4 HM4
      obtain ⟨y0, -, -, -, -, -⟩ := HBX5.out.cells
      go_wp2_with fail
      (with_reducible refine (trace_w (T := e :: T) e.it his HR5 0 (Lib.hid HP.out.te) (Lib.hid HP.out.tr)).mono ?_)
      rintro e' w6 ⟨vT, rfl, hrow, hb⟩
      obtain ⟨A6, c6, hv⟩ := row_form hrow
      subst hv
      have HT6 := Lib.hid (row_slr hrow A6 c6 rfl)
      have HB6 := Lib.hid (below_old HB5.out hb)
      have HBX6 : Hid (LBox w6 gx e) := LBox.below HBX5.out hb
      clear hrow hb HR5 HBX5 y0 HB5
      obtain ⟨y0, y1, y2, y3, y4, y5⟩ := HBX6.out.cells
      obtain ⟨bt_, offt, hAt, hbt, t0, t1, t2, t3, t4, t5⟩ := HT6.out.link (i := 0) (by simp)
      subst hAt
      simp only [List.getElem_cons_zero, Nat.zero_mul, Nat.add_zero] at t0 t1 t2 t3 t4 t5
      obtain ⟨s0, -, -, -, -, -⟩ := link_cells HT6.out HP.out.la.1 HP.out.la.2
      obtain ⟨Z, hZ⟩ : ∃ Z, z.it = Z := ⟨_, rfl⟩
      have hz8 := HP.out.z8
      have hz0 := HP.out.z0
      rw [hZ] at hz8 hz0 s0
      have n0 : 0 < Z.size := by omega
      have hg0 := bt_get Z 0 n0
      rw [hz0] at hg0
      have zz0 : (0 : Int) < (Z.size : Int) := by omega
      have qs := seq_t (rfl : Z = Z)
      have nl := neL e
      have q0 : (((T.length + 1 : Nat) : Int) == 0) = false := beq_eq_false_iff_ne.2 (by omega)
      have q1 : ((T.length : Int) + 1 == 0) = false := beq_eq_false_iff_ne.2 (by omega)
      have q2 : (0 : Int) < (T.length : Int) + 1 := by omega
      have q5 : IntKind.i64.wrap ((T.length : Int) + 1 - 1) = (T.length : Int) := by simp only [IntKind.wrap_i64]; omega
      rw [hZ]
      clear hz0 hz8
      go_wp2_with fail
      go_quiet (fail)
      have HB7 := Lib.hid (below_old HB6.out (below_drewN (Below.refl w6.heap.size w6) nq))
      have HBX7 : Hid (LBox (w6.drewN nq) gx e) := LBox.below HBX6.out (below_drewN (Below.refl w6.heap.size w6) nq)
      have HT7 := Lib.hid (HT6.out.below (below_drewN (Below.refl w6.heap.size w6) nq))
      clear y0 y1 y2 y3 y4 y5 t0 t1 t2 t3 t4 t5 s0 HBX6 HT6 HB6 q0 q1 q5 nl hg0 qs
      generalize w6.drewN nq = w7 at *
      go_wp2_with fail
      go_loopw [23] (fun i wq => ∃ (j : Nat), i = .int .i64 j ∧ j ≤ T.length + 1 ∧ Hid (Below w7.heap.size w7 wq)) (fun i _ => T.length + 1 - (intOf i).toNat)
      case atStart => exact ⟨0, rfl, by omega, Below.refl _ _⟩
      case round =>
        obtain ⟨j, rfl, hj, HQ⟩ := hrel
        have HTq := Lib.hid (HT7.out.below HQ.out)
        have HBXq : Hid (LBox wr gx e) := LBox.below HBX7.out HQ.out
        by_cases hjl : j < T.length + 1
        · have hlt : j < (e :: T).length := by simpa using hjl
          obtain ⟨f, hf⟩ : ∃ f, (e :: T)[j] = f := ⟨_, rfl⟩
          have hal := HP.out.al j hlt
          rw [hf] at hal
          obtain ⟨a1, a2⟩ := hal
          obtain ⟨-, p1, p2, -, p4, -⟩ := link_cells HTq.out hlt hf
          obtain ⟨-, -, y2, -, y4, -⟩ := HBXq.out.cells
          have qs := seq_t a1
          have zj : (j : Int) < (T.length : Int) + 1 := by omega
          have a3 : decide (f.ti > e.ti) = false := decide_eq_false (by omega)
          have a4 : decide (e.ti < f.ti) = false := decide_eq_false (by omega)
          have HAL := Lib.hid a1
          clear a1
          by_cases hj1 : j + 1 < T.length + 1
          · have hlt1 : j + 1 < (e :: T).length := by simpa using hj1
            obtain ⟨g, hg⟩ : ∃ g, (e :: T)[j + 1] = g := ⟨_, rfl⟩
            have s1 := HP.out.st j hlt1
            rw [hf, hg] at s1
            obtain ⟨r0, -, -, -, -, -⟩ := link_cells HTq.out hlt1 hg
            have qp := seq_t s1
            have kw : IntKind.i64.wrap ((j : Int) + 1) = ((j + 1 : Nat) : Int) := by simp only [IntKind.wrap_i64]; omega
            have zj1 : ((j + 1 : Nat) : Int) < (T.length : Int) + 1 := by omega
            obtain ⟨j1, hj1e⟩ : ∃ j1, j + 1 = j1 := ⟨_, rfl⟩
            rw [hj1e] at r0 kw zj1
            have a5 : decide ((j1 : Int) < (T.length : Int) + 1) = true := decide_eq_true zj1
            have HJ1 := Lib.hid hj1e
            clear s1 hf hg hlt1 hj1e
            go_wp2_with fail
            go_quiet (fail)
            have HQ2 := Lib.hid (below_drewN HQ.out nq)
            go_wp2_with fail
            go_roundw
            case rel => exact ⟨j + 1, by rw [HJ1.out], by omega, HQ2⟩
            case measure => have := HJ1.out; simp [intOf]; omega
          · have kw : IntKind.i64.wrap ((j : Int) + 1) = (T.length : Int) + 1 := by simp only [IntKind.wrap_i64]; omega
            have a5 : decide ((T.length : Int) + 1 < (T.length : Int) + 1) = false := decide_eq_false (by omega)
            clear hf
            go_wp2_with fail
            go_quiet (fail)
            have HQ2 := Lib.hid (below_drewN HQ.out nq)
            go_wp2_with fail
            go_roundw
            case rel => exact ⟨j + 1, by go_num, by omega, HQ2⟩
            case measure => simp [intOf]; omega
        · have zj : (T.length : Int) + 1 ≤ (j : Int) := by omega
          have HB8 := Lib.hid (below_old HB7.out HQ.out)
          have HM8 := Lib.hid (HM3.out.below HB8.out)
          obtain ⟨⟨v8, hv8⟩, -⟩ := HM8.out
          have HCC := Lib.hid (children_any e.it wr (Lib.hid hv8.c) (by omega))
          clear hv8 HTq
          obtain ⟨F, hF⟩ : ∃ F, Cu.chl L e.it = F := ⟨_, rfl⟩
          have hkl := HP.out.kl
          rw [hF] at HCC hkl
          clear hF
          obtain ⟨y0, -, -, -, -, -⟩ := HBXq.out.cells
          go_wp2_with fail
          (with_reducible refine HCC.out.mono ?_)
          rintro e' w9 ⟨vC, rfl, hrow, hb⟩
          obtain ⟨AC, cC, hv⟩ := row_form hrow
          subst hv
          have HB9 := Lib.hid (below_old HB8.out hb)
          have HBX9 : Hid (LBox w9 gx e) := LBox.below HBXq.out hb
          clear hrow hb HB8 HBXq HCC y0 HM8
          have hgm := gv_mono (s := e.it) (fun f hf => (HGO.out.al.vo f hf).1)
          have HGM := Lib.hid hgm
          clear hgm
          have hsu := HP.out.su
          have hvo := HP.out.vo
          go_wp2_with fail
          go_loopw [24, 26] (fun s i wq => ∃ (n : Nat) (y : Int), s = .int .i64 y ∧ i = .int .i64 n ∧ n ≤ L.length ∧ Hid (y = Cu.gv e.it (L.take n)) ∧ Hid (Below w9.heap.size w9 wq)) (fun _ i _ => L.length - (intOf i).toNat)
          case atStart => exact ⟨0, 0, rfl, rfl, by omega, by show (0 : Int) = _; simp [Cu.gv], Below.refl _ _⟩
          case round =>
            obtain ⟨n, y, rfl, rfl, hn, HY, HQB⟩ := hrel
            have hy := HGM.out n
            rw [← HY.out] at hy
            obtain ⟨hy0, hy1⟩ := hy
            have HBq := Lib.hid (below_old HB9.out HQB.out)
            have HBXn : Hid (LBox wr gx e) := LBox.below HBX9.out HQB.out
            by_cases hnl : n < L.length
            · obtain ⟨f, hf⟩ : ∃ f, L[n] = f := ⟨_, rfl⟩
              have HGT := Lib.hid (gv_take (s := e.it) hnl)
              rw [hf, ← HY.out] at HGT
              obtain ⟨-, t1, -, t3, -, -⟩ := link_cells (HLA3.out.below HBq.out) hnl hf
              obtain ⟨y0, -, -, -, -, -⟩ := HBXn.out.cells
              have zn : (n : Int) < (L.length : Int) := by omega
              have hy2 := HGM.out (n + 1)
              rw [HGT.out] at hy2
              obtain ⟨hy3, hy4⟩ := hy2
              have HFK := Lib.hid hf
              clear hf
              by_cases g : f.pa = e.it
              · have qs := seq_t g
                rw [if_pos g] at hy3 hy4 HGT
                have HY2 : Hid (y + f.vo = Cu.gv e.it (L.take (n + 1))) := HGT.out.symm
                clear g HGT
                go_wp2_with fail
                go_quiet (fail)
                have HQ2 := Lib.hid (below_drewN HQB.out nq)
                have HBr := Lib.hid (below_old HBq.out (below_drewN (Below.refl wr.heap.size wr) nq))
                clear t1 t3 y0
                obtain ⟨-, -, -, t3, -, -⟩ := link_cells (HLA3.out.below HBr.out) hnl HFK.out
                go_wp2_with fail
                go_roundw
                case rel => exact ⟨n + 1, y + f.vo, rfl, by go_num, by omega, HY2, HQ2⟩
                case measure => simp [intOf]; omega
              · have qs := seq_f g
                rw [if_neg g, Int.add_zero] at HGT
                have HY2 : Hid (y = Cu.gv e.it (L.take (n + 1))) := HGT.out.symm
                clear g HGT hy3 hy4
                go_wp2_with fail
                go_quiet (fail)
                have HQ2 := Lib.hid (below_drewN HQB.out nq)
                go_wp2_with fail
                go_roundw
                case rel => exact ⟨n + 1, y, rfl, by go_num, by omega, HY2, HQ2⟩
                case measure => simp [intOf]; omega
            · have hE : L.take n = L := List.take_of_length_le (by omega)
              rw [hE] at HY
              have hle : y ≤ e.vo := by rw [HY.out]; exact hsu
              have zn : (L.length : Int) ≤ (n : Int) := by omega
              clear hE
              obtain ⟨m, hm⟩ : ∃ m, Pt.lfN R e.it = m := ⟨_, rfl⟩
              obtain ⟨b, hb⟩ : ∃ b, Pt.lfB R e.it = b := ⟨_, rfl⟩
              have HLN := Lib.hid hm
              have HLB := Lib.hid hb
              clear hm hb
              have HMq := Lib.hid (HM3.out.below HBq.out)
              obtain ⟨y0, y1, -, y3, -, -⟩ := HBXn.out.cells
              have zkl : (F.length : Int) ≤ (L.length : Int) := by omega
              go_wp2_with fail
              (with_reducible refine (two_left e.it m b HLN HLB HMq (Lib.hid HBO.out.ok)).mono ?_)
              rintro e' wA ⟨rfl, hb⟩
              have HBA := Lib.hid (below_old HBq.out hb)
              have HBXA : Hid (LBox wA gx e) := LBox.below HBXn.out hb
              clear hb y0 y1 y3
              obtain ⟨y0, y1, -, y3, -, -⟩ := HBXA.out.cells
              by_cases hp : e.pa = ByteArray.empty
              · have hlf := HBO.out.left HEM.out hp
                have eb : b = true := by rw [← HLB.out]; exact hlf.2
                have em : m = e.vo - y := by rw [← HLN.out, HY.out]; exact hlf.1
                subst eb
                have wv : IntKind.i64.wrap (e.vo - y) = m := by rw [em]; simp only [IntKind.wrap_i64]; omega
                have qp : (e.pa.toList == []) = true := by rw [hp, ByteArray.toList_eq]; rfl
                have qm : (m == m) = true := by simp
                clear hlf em hp
                go_wp2_with fail
                go_roundw
                case rel => exact ⟨q + 1, by go_num, by omega, HBA⟩
                case measure => simp [intOf]; omega
              · have qp : (e.pa.toList == []) = false := (pa_some hp).1
                clear hp
                go_wp2_with fail
                go_roundw
                case rel => exact ⟨q + 1, by go_num, by omega, HBA⟩
                case measure => simp [intOf]; omega
    · have zq : (L.length : Int) ≤ (q : Int) := by omega
      have HBE := Lib.hid (below_old HM3.out.bel HB.out)
      go_wp2_with fail
      (with_reducible refine (cuAwake _ (Lib.hid (HT.out.below HBE.out))).mono ?_)
      rintro e wz ⟨rfl, hbz⟩
      have HBZ := Lib.hid (below_old HBE.out hbz)
      clear hbz
      go_wp2_with fail
      go_ret
      exact ⟨rfl, HBZ.out⟩
end Go.Proofs.YtpimmdmcmccbpaaDoor
