/-
  Package pinfoldlaw09: VmemHolds' great loop, Store. No condition.
-/
import Derived.Test.YtleclclncgnelaaBVmV
namespace Go.Proofs.Ytleclclncgnelaa
open Go.RowKit
attribute [local go_sem] Oper.semAt_some
set_option maxHeartbeats 4000000
set_option maxRecDepth 100000

structure StS (bx at_ j : Nat) (sa : Nat) (so n sc : Nat) (y : Int) (Y : World) : Prop where
  h1 : Y.cell? ⟨bx, 6, none⟩ = some (.int .u32 at_)
  h2 : Y.cell? ⟨bx, 7, none⟩ = some (.slice (some ⟨sa, so, none⟩) n sc)
  h3 : Y.cell? ⟨sa, so + j, none⟩ = some (.int .u8 y)
theorem case_storeV {l : List VAct} {w wr : World} {lv : Value} {k : Mb} {g5 g6 kk : Nat} {s' : Ms} {now who : List Int} {Q0 : Exit → Act → World → Prop} (HY : HolV l w lv) (hlt : kk < l.length) (V' : VB w wr k s' g5 g6 now who) (I' : HI s' now who) (hwhat : l[kk].what = 5) (hgo : GoV l[kk])
    (u0 u1 u2 u3 u4 u5 u6 u7 u8 u9 u10 u11 u12 u13 u14 u15 u16 u17 u18 u19 u20 u21 u22 u23 u24 u25 u26 u27 u28 u29 u30 u31 u32 u33 u34 u35 u36 u37 u38 u39 u40 u41 u42 u43 u44 u45 u46 u47 u48 u49 u50 u51 u52 u53 u54 u55 u56 u57 u58 u59 u60 u61 u62 u63 u64 u65 u66 u67 u68 u69 u70 u71 u72 u73 u74 u75 u76 u77 u78 u79 u80 u81 u82 u83 u84 u85 u86 u87 u88 u89 u90 u91 u92 u93 u94 u95 u96 u97 u98 u99 u100 u101 u102 u103 u104 u105 u106 u107 u108 u109 u110 u111 u112 u113 u114 u115 u116 u117 u118 u119 u120 u121 u122 u123 u124 u125 u126 u127 u128 u129 u130 u131 u132 u133 u134 u135 u136 u137 u138 u139 u140 u141 u142 u143 u144 u145 u146 u147 u148 u149 u150 u151 u152 u153 u154 u155 u156 u157 u158 u159 u160 u161 u162 u163 u164 u165 u166 u167 u168 u169 u170 u171 u172 u173 u174 u175 u176 u177 u178 u179 u180 u181 u182 u183 u184 u185 u186 u187 u188 u189 u190 u191 u192 u193 u194 u195 u196 u197 u198 u199 u200 u201 u202 u203 u204 u205 u206 u207 u208 u209 u210 u211 u212 u213 u214 u215 u216 u217 u218 u219 u220 u221 u222 u223 u224 u225 u226 u227 u228 u229 u230 u231 u232 u233 u234 u235 u236 u237 u238 u239 u240 u241 u242 u243 u244 u245 u246 u247 u248 u249 u250 u251 u252 u253 u254 u255 u256 u257 u258 u259 u260 u261 u262 u263 u264 u265 u266 u267 u268 u269 u270 u271 u272 u273 u274 u275 u276 u277 u278 u279 u280 u281 u282 u283 u284 u285 u286 u287 : Value) (h0 : u0 = lv) (h3 : u3 = .pointer (some ⟨k.b, 0, none⟩)) (h5 : u5 = .pointer (some ⟨g5, 0, none⟩)) (h6 : u6 = .pointer (some ⟨g6, 0, none⟩)) (h7 : u7 = .int .i64 kk) :
    Code.wp Try.prog bodyV (Exit.then (fun a' w'' => WV l w k g5 g6 lv (kk + 1) a' w'') Q0) ⟨#[u0, u1, u2, u3, u4, u5, u6, u7, u8, u9, u10, u11, u12, u13, u14, u15, u16, u17, u18, u19, u20, u21, u22, u23, u24, u25, u26, u27, u28, u29, u30, u31, u32, u33, u34, u35, u36, u37, u38, u39, u40, u41, u42, u43, u44, u45, u46, u47, u48, u49, u50, u51, u52, u53, u54, u55, u56, u57, u58, u59, u60, u61, u62, u63, u64, u65, u66, u67, u68, u69, u70, u71, u72, u73, u74, u75, u76, u77, u78, u79, u80, u81, u82, u83, u84, u85, u86, u87, u88, u89, u90, u91, u92, u93, u94, u95, u96, u97, u98, u99, u100, u101, u102, u103, u104, u105, u106, u107, u108, u109, u110, u111, u112, u113, u114, u115, u116, u117, u118, u119, u120, u121, u122, u123, u124, u125, u126, u127, u128, u129, u130, u131, u132, u133, u134, u135, u136, u137, u138, u139, u140, u141, u142, u143, u144, u145, u146, u147, u148, u149, u150, u151, u152, u153, u154, u155, u156, u157, u158, u159, u160, u161, u162, u163, u164, u165, u166, u167, u168, u169, u170, u171, u172, u173, u174, u175, u176, u177, u178, u179, u180, u181, u182, u183, u184, u185, u186, u187, u188, u189, u190, u191, u192, u193, u194, u195, u196, u197, u198, u199, u200, u201, u202, u203, u204, u205, u206, u207, u208, u209, u210, u211, u212, u213, u214, u215, u216, u217, u218, u219, u220, u221, u222, u223, u224, u225, u226, u227, u228, u229, u230, u231, u232, u233, u234, u235, u236, u237, u238, u239, u240, u241, u242, u243, u244, u245, u246, u247, u248, u249, u250, u251, u252, u253, u254, u255, u256, u257, u258, u259, u260, u261, u262, u263, u264, u265, u266, u267, u268, u269, u270, u271, u272, u273, u274, u275, u276, u277, u278, u279, u280, u281, u282, u283, u284, u285, u286, u287], []⟩ wr := by
  subst h0 h3 h5 h6 h7
  have HVL := Lib.hid HY.hv
  have hml : l.length ≤ 9223372036854775807 := by
    obtain ⟨_, _, _, _, h, _⟩ := HY.hv
    unfold maxLen at h
    omega
  obtain ⟨ad, cap, rfl, _⟩ := HY.hv
  obtain ⟨ba, off, rfl, hA⟩ : ∃ b off, ad = some ⟨b, off, none⟩ ∧ ∀ i (h : i < l.length), VActAt w.heap.size w b (off + i * 8) l[i] := by
    obtain ⟨_, _, hv, _, _, h⟩ := HVL.out
    simp only [Value.slice.injEq] at hv
    obtain ⟨rfl, _⟩ := hv
    rcases h with h | h
    · rw [h] at hlt; simp at hlt
    · exact h
  have hAk := (hA kk hlt).below V'.L.bel (Nat.le_refl _)
  have hbl : (l[kk].bs.length : Int) ≤ 600 := by
    have h := HY.hf
    unfold fewV at h
    rw [Bool.and_eq_true, decide_eq_true_eq] at h
    exact (h.1 l[kk] (List.getElem_mem hlt)).1
  clear hA HVL HY
  obtain ⟨⟨what, page, ow, pay, many, may, at_, av, bs⟩, hak⟩ : ∃ a, l[kk] = a := ⟨_, rfl⟩
  rw [hak] at hAk hbl hgo hwhat
  clear hak
  obtain ⟨q0, q1, q2, q3, q4, q5, q6, q7, hrow, hblt, hbw, ⟨b00, b01⟩, ⟨⟨b10, b11⟩, ⟨b12, b13⟩, ⟨b14, b15⟩⟩⟩ := hAk
  unfold GoV at hgo
  dsimp only at q0 q1 q2 q3 q4 q5 q6 q7 hrow hbw b00 b01 b10 b11 b12 b13 b14 b15 hbl hgo hwhat
  have i0 : (0 : Int) ≤ kk := by omega
  have i1 : (kk : Int) < l.length := by omega
  have HR := Lib.hid hrow
  have HBW := Lib.hid hbw
  clear hbw
  obtain ⟨sa, sc, rfl, _⟩ := hrow
  have hN := V'.L.bel.size
  obtain ⟨wx, hwx⟩ : ∃ wx, wr.alloc (.cells #[.int .i64 what, .int .i64 page, .int .i64 ow, .int .i64 pay, .int .i64 many, .int .i64 may, .int .u32 at_, .slice sa bs.length sc] 37) = wx := ⟨_, rfl⟩
  have hX : Blk wx wr.heap.size #[.int .i64 what, .int .i64 page, .int .i64 ow, .int .i64 pay, .int .i64 many, .int .i64 may, .int .u32 at_, .slice sa bs.length sc] 37 := by rw [← hwx]; exact Blk.new wr _ _
  have kx : Below wr.heap.size wr wx := by rw [← hwx]; exact (Below.refl _ wr).alloc (Nat.le_refl _) _
  have x0 : wx.cell? ⟨wr.heap.size, 0, none⟩ = some (.int .i64 what) := hX.cell 0 rfl
  have x1 : wx.cell? ⟨wr.heap.size, 1, none⟩ = some (.int .i64 page) := hX.cell 1 rfl
  have x2 : wx.cell? ⟨wr.heap.size, 2, none⟩ = some (.int .i64 ow) := hX.cell 2 rfl
  have x4 : wx.cell? ⟨wr.heap.size, 4, none⟩ = some (.int .i64 many) := hX.cell 4 rfl
  have x6 : wx.cell? ⟨wr.heap.size, 6, none⟩ = some (.int .u32 at_) := hX.cell 6 rfl
  have x7 : wx.cell? ⟨wr.heap.size, 7, none⟩ = some (.slice sa bs.length sc) := hX.cell 7 rfl
  have VX := V'.step kx
  conv => arg 2; whnf
  obtain ⟨o, ho⟩ : ∃ o, wrap64 (1 + bits .and .i64 ow 1) = o := ⟨_, rfl⟩
  have hoo : o = 1 ∨ o = 2 := by
    rw [← ho]
    rcases and_one ow with e | e <;> rw [e]
    · left; unfold wrap64; omega
    · right; unfold wrap64; omega
  have hmx : max o (-1) = o := by omega
  have n5 := V'.b5.lt
  have n6 := V'.b6.lt
  have lw := I'.lw
  have ln := I'.ln
  have HRW := Lib.hid (HR.out.below kx hN)
  have hNx : w.heap.size ≤ wx.heap.size := Nat.le_trans hN kx.size
  obtain ⟨c1, c2, c3, c4, c5, c6⟩ := hgo
  subst hwhat
  go_wp2_with fail
  clear q0 q1 q2 q3 q4 q5 q6 q7 V' HR hwx kx
  obtain ⟨bx, hbx⟩ : ∃ z, wr.heap.size = z := ⟨_, rfl⟩
  rw [hbx] at hX x0 x1 x2 x4 x6 x7 n5 n6 hN ⊢
  refine (VX.L.store o at_ b00 b01 bs hNx HRW.out).mono ?_; rintro e w1 ⟨rfl, L1, ch⟩
  rw [hmx] at L1 ⊢
  have V1 := VX.chg L1 ch
  have hX1 := ch.cells VX.L.m hX
  have HRW1 := Lib.hid (HRW.out.below (ch.below VX.L.lo.1 VX.L.lo.2.1 VX.L.lo.2.2 hNx) (Nat.le_refl _))
  have y6 : w1.cell? ⟨bx, 6, none⟩ = some (.int .u32 at_) := hX1.cell 6 rfl
  have y7 : w1.cell? ⟨bx, 7, none⟩ = some (.slice sa bs.length sc) := hX1.cell 7 rfl
  obtain ⟨at', rfl⟩ : ∃ n : Nat, at_ = n := ⟨at_.toNat, by omega⟩
  have c61 : at' + bs.length ≤ 5120 := by omega
  have hq := I'.rch o hoo at' bs.length 2 (by decide) (by omega)
  rw [hmx] at hq
  obtain ⟨I1, I2⟩ := I'.wr o at' bs (by omega)
  generalize wrS s' o at' bs = s1 at V1 I1 I2
  generalize rchE s'.D o at' bs.length 2 = q at hq I1 I2 ⊢
  have HQ := Lib.hid hq
  have HI1 := Lib.hid I1
  have HI2 := Lib.hid I2
  clear hq I1 I2 VX x0 x1 x2 x4 x6 x7 hX HRW L1 ch
  try clear HR V'
  by_cases hb0 : bs.length = 0
  · have hb1 : decide (0 < bs.length) = false := decide_eq_false (by omega)
    have hq := HQ.out
    rw [hb1, hb0] at hq
    have hq0 : q ≠ 0 := fun e => by have := hq.1 e; unfold fineK at this; cases this
    have hq1 : (q == 0) = false := by simpa using hq0
    have I3 := HI1.out hq0
    clear hq hq0 HQ HI1 HI2
    go_wp2_with fail
    go_loopw [12, 13] (fun f i wr2 => i = .int .i64 0 ∧ f = .bool false ∧ w1 = wr2) (fun _ i _ => 0)
    case atStart => exact ⟨rfl, rfl, rfl⟩
    case round =>
      obtain ⟨rfl, rfl, rfl⟩ := hrel
      go_wp2_with fail
      refine (num_callsV _ _).mono ?_; rintro e _ ⟨rfl, rfl⟩
      go_wp2_with fail
      go_loopw [14] (fun i wr2 => i = .int .i64 0 ∧ w1 = wr2) (fun i _ => 0)
      case atStart => exact ⟨rfl, rfl⟩
      case round =>
        obtain ⟨rfl, rfl⟩ := hrel
        go_wp2_with fail
        exact WV.close _ rfl rfl rfl rfl rfl rfl (by go_num) (by omega) V1 I3
  have hb1 : decide (0 < bs.length) = true := decide_eq_true (by omega)
  rw [hb1] at HQ
  go_wp2_with fail
  go_loopw [12, 13] (fun f i wr2 => ∃ j : Nat, j ≤ bs.length ∧ i = .int .i64 j ∧ f = .bool (fineK who o at' true j) ∧ w1 = wr2) (fun _ i _ => bs.length - (intOf i).toNat)
  case atStart => exact ⟨0, by omega, rfl, by rw [fineK_zero], rfl⟩
  case round =>
    obtain ⟨j, hj, rfl, rfl, rfl⟩ := hrel
    by_cases hlt2 : j < bs.length
    · have z6 := V1.c6 ((at' + j) / 256) (by omega)
      have hd : Int.tdiv ((at' : Int) + j) 256 = ((at' + j) / 256 : Nat) := by rw [Int.tdiv_eq_ediv_of_nonneg (by omega)]; omega
      have hlt3 : (at' + j) / 256 < 20 := by omega
      cases hf : fineK who o at' true j
      · go_wp2_with fail
        exact ⟨⟨j + 1, by omega, by go_num, by rw [fineK_succ, hf]; rfl, by first | rfl | trivial⟩, by simp [intOf]; omega⟩
      · by_cases hw : who.getD ((at' + j) / 256) 0 = o
        · rw [hw] at z6
          go_wp2_with fail
          exact ⟨⟨j + 1, by omega, by go_num, by rw [fineK_succ, hf, hw]; simp, by first | rfl | trivial⟩, by simp [intOf]; omega⟩
        · have hw2 : (who.getD ((at' + j) / 256) 0 == o) = false := by simpa using hw
          generalize hwv : who.getD ((at' + j) / 256) 0 = wv at z6 hw hw2
          go_wp2_with fail
          exact ⟨⟨j + 1, by omega, by go_num, by rw [fineK_succ, hf, hwv, hw2]; first | rfl | (rw [← hw2]; rfl), by first | rfl | trivial⟩, by simp [intOf]; omega⟩
    · obtain rfl : j = bs.length := by omega
      have hq := HQ.out
      cases hf : fineK who o at' true bs.length
      · have hq0 : q ≠ 0 := fun e => by rw [hq.1 e] at hf; cases hf
        have hq1 : (q == 0) = false := by simpa using hq0
        have I3 := HI1.out hq0
        clear hq hq0 HQ HI1 HI2
        go_wp2_with fail
        refine (num_callsV _ _).mono ?_; rintro e _ ⟨rfl, rfl⟩
        go_wp2_with fail
        go_loopw [14] (fun i wr2 => i = .int .i64 0 ∧ w1 = wr2) (fun i _ => 0)
        case atStart => exact ⟨rfl, rfl⟩
        case round =>
          obtain ⟨rfl, rfl⟩ := hrel
          go_wp2_with fail
          exact WV.close _ rfl rfl rfl rfl rfl rfl (by go_num) (by omega) V1 I3
      · have hq0 : q = 0 := hq.2 hf
        have I3 := HI2.out hq0
        subst hq0
        clear hq HQ HI1 HI2
        go_wp2_with fail
        refine (num_callsV _ _).mono ?_; rintro e _ ⟨rfl, rfl⟩
        go_wp2_with fail
        go_loopw [14] (fun i wr2 => ∃ j : Nat, j ≤ bs.length ∧ i = .int .i64 j ∧ VB w wr2 k s1 g5 g6 (putL now at' (bs.take j)) who ∧ Blk wr2 bx #[.int .i64 5, .int .i64 page, .int .i64 ow, .int .i64 pay, .int .i64 many, .int .i64 may, .int .u32 at', .slice sa bs.length sc] 37 ∧ RowAt w.heap.size wr2 (.slice sa bs.length sc) bs.length (intVals .u8 bs)) (fun i _ => bs.length - (intOf i).toNat)
        case atStart => exact ⟨0, by omega, rfl, by rw [List.take_zero, putL_nil]; exact V1, hX1, HRW1.out⟩
        case round =>
          obtain ⟨j, hj, rfl, Vj, hXj, hRj⟩ := hrel
          clear V1 hX1 y6 y7
          have z6 : wr.cell? ⟨bx, 6, none⟩ = some (.int .u32 at') := hXj.cell 6 rfl
          have z7 : wr.cell? ⟨bx, 7, none⟩ = some (.slice sa bs.length sc) := hXj.cell 7 rfl
          by_cases hlt2 : j < bs.length
          · obtain ⟨sb, so, rfl, hsb, hcell⟩ : ∃ sb so, sa = some ⟨sb, so, none⟩ ∧ sb < w.heap.size ∧ wr.cell? ⟨sb, so + j, none⟩ = some (.int .u8 bs[j]) := by
              obtain ⟨a, c, e, _, h⟩ := hRj
              cases e
              rcases h with h | ⟨b, o, e, hb, h⟩
              · have := congrArg List.length h
                unfold intVals at this
                simp at this
                rw [this] at hlt2; simp at hlt2
              · refine ⟨b, o, e, hb, ?_⟩
                rw [h j (by unfold intVals; simp; exact hlt2)]
                unfold intVals
                rw [List.getElem?_map, List.getElem?_eq_getElem hlt2]
                rfl
            have lnj : (putL now at' (bs.take j)).length = 5120 := by rw [putL_length _ _ _ (by rw [List.length_take]; omega)]; exact ln
            have Vn := (Vj.step (Below.refl _ wr).drew).set5 (at' + j) bs[j]
            rw [putL_step now at' bs j hlt2 (by omega)] at Vn
            have hXn : Blk (wr.drew.setCell ⟨g5, at' + j, none⟩ (.int .u8 bs[j])) bx _ _ := hXj.drew.setOther _ _ (show bx ≠ g5 by omega)
            have hg5 : w.heap.size ≤ g5 := Vj.lo.1
            have hRn : RowAt w.heap.size (wr.drew.setCell ⟨g5, at' + j, none⟩ (.int .u8 bs[j])) _ _ _ := hRj.below ((Below.refl _ wr).drew.setCell (p := ⟨g5, at' + j, none⟩) hg5 _) (Nat.le_refl _)
            have hcl : sb < wr.heap.size := by have := Vj.L.bel.size; omega
            have hcn : (wr.drew.setCell ⟨g5, at' + j, none⟩ (.int .u8 bs[j])).cell? ⟨sb, so + j, none⟩ = some (.int .u8 bs[j]) := (((Below.refl w.heap.size wr).drew.setCell (p := ⟨g5, at' + j, none⟩) hg5 _).cell (p := ⟨sb, so + j, none⟩) hsb).trans hcell
            have HC := Lib.hid (show ∀ Y, Below wr.heap.size wr Y → StS bx at' j sb so bs.length sc bs[j] Y from fun Y h => ⟨(h.cell (p := ⟨bx, 6, none⟩) hXj.lt).trans z6, (h.cell (p := ⟨bx, 7, none⟩) hXj.lt).trans z7, (h.cell (p := ⟨sb, so + j, none⟩) hcl).trans hcell⟩)
            have zc : wr.drew.cell? ⟨g5, at' + j, none⟩ = _ := Vj.c5 (at' + j) (by rw [lnj]; omega)
            have zf : wr.drew.frozen? ⟨g5, at' + j, none⟩ = _ := Vj.b5.frozen (at' + j)
            go_wp2_with fail
            refine wp_onlyN ?_
            refine wp_region_held_drew (S := StS bx at' j sb so bs.length sc bs[j]) (by kernel_rfl) (HC.out _ (Below.refl _ wr).drew) (fun hHeld => ?_)
            have hw1 := wrap_at at' (by omega)
            have hw2 := wrap_at2 at' j (by omega)
            refine wpAnyH_take (i := 0) (v := ?_) rfl (by kernel_rfl) (by kernel_rfl) (by kernel_rfl) (fun _ _ _ h => h) (Or.inl ⟨by rfl, ?_⟩) (by assumption) ?_
            rotate_left
            · (intro Y hSw; (try dsimp only at hSw); obtain ⟨hS0, hS1, hS2⟩ := hSw; go_simp; try with_reducible rfl)
            try simp only [Act.put, List.getElem_toArray, List.getElem_cons_zero, List.getElem_cons_succ, List.setIfInBounds_toArray, List.set_cons_zero, List.set_cons_succ]
            refine wpAnyH_take (i := 1) (v := ?_) rfl (by kernel_rfl) (by kernel_rfl) (by kernel_rfl) (fun _ _ _ h => h) (Or.inl ⟨by rfl, ?_⟩) (by assumption) ?_
            rotate_left
            · (intro Y hSw; (try dsimp only at hSw); obtain ⟨hS0, hS1, hS2⟩ := hSw; go_simp; try with_reducible rfl)
            try simp only [Act.put, List.getElem_toArray, List.getElem_cons_zero, List.getElem_cons_succ, List.setIfInBounds_toArray, List.set_cons_zero, List.set_cons_succ]
            refine wpAnyH_take (i := 2) (v := ?_) rfl (by kernel_rfl) (by kernel_rfl) (by kernel_rfl) (fun _ _ _ h => h) (Or.inl ⟨by rfl, ?_⟩) (by assumption) ?_
            rotate_left
            · (intro Y hSw; (try dsimp only at hSw); obtain ⟨hS0, hS1, hS2⟩ := hSw; go_simp; try with_reducible rfl)
            try simp only [Act.put, List.getElem_toArray, List.getElem_cons_zero, List.getElem_cons_succ, List.setIfInBounds_toArray, List.set_cons_zero, List.set_cons_succ]
            refine wpAnyH_take (i := 3) (v := ?_) rfl (by kernel_rfl) (by kernel_rfl) (by kernel_rfl) (fun _ _ _ h => h) (Or.inl ⟨by rfl, ?_⟩) (by assumption) ?_
            rotate_left
            · (intro Y hSw; (try dsimp only at hSw); obtain ⟨hS0, hS1, hS2⟩ := hSw; go_simp; try with_reducible rfl)
            try simp only [Act.put, List.getElem_toArray, List.getElem_cons_zero, List.getElem_cons_succ, List.setIfInBounds_toArray, List.set_cons_zero, List.set_cons_succ]
            refine wpAnyH_take (i := 4) (v := ?_) rfl (by kernel_rfl) (by kernel_rfl) (by kernel_rfl) (fun _ _ _ h => h) (Or.inl ⟨by rfl, ?_⟩) (by assumption) ?_
            rotate_left
            · (intro Y hSw; (try dsimp only at hSw); obtain ⟨hS0, hS1, hS2⟩ := hSw; go_simp; try with_reducible rfl)
            try simp only [Act.put, List.getElem_toArray, List.getElem_cons_zero, List.getElem_cons_succ, List.setIfInBounds_toArray, List.set_cons_zero, List.set_cons_succ]
            refine wpAnyH_take (i := 5) (v := ?_) rfl (by kernel_rfl) (by kernel_rfl) (by kernel_rfl) (fun _ _ _ h => h) (Or.inl ⟨by rfl, ?_⟩) (by assumption) ?_
            rotate_left
            · (intro Y hSw; (try dsimp only at hSw); obtain ⟨hS0, hS1, hS2⟩ := hSw; go_simp; try with_reducible rfl)
            try simp only [Act.put, List.getElem_toArray, List.getElem_cons_zero, List.getElem_cons_succ, List.setIfInBounds_toArray, List.set_cons_zero, List.set_cons_succ]
            refine wpAnyH_take (i := 6) (v := ?_) rfl (by kernel_rfl) (by kernel_rfl) (by kernel_rfl) (fun _ _ _ h => h) (Or.inl ⟨by rfl, ?_⟩) (by assumption) ?_
            rotate_left
            · (intro Y hSw; (try dsimp only at hSw); obtain ⟨hS0, hS1, hS2⟩ := hSw; go_simp; try with_reducible rfl)
            try simp only [Act.put, List.getElem_toArray, List.getElem_cons_zero, List.getElem_cons_succ, List.setIfInBounds_toArray, List.set_cons_zero, List.set_cons_succ]
            refine wpAnyH_take (i := 7) (v := ?_) rfl (by kernel_rfl) (by kernel_rfl) (by kernel_rfl) (fun _ _ _ h => h) (Or.inl ⟨by rfl, ?_⟩) (by assumption) ?_
            rotate_left
            · (intro Y hSw; (try dsimp only at hSw); obtain ⟨hS0, hS1, hS2⟩ := hSw; go_simp; try with_reducible rfl)
            try simp only [Act.put, List.getElem_toArray, List.getElem_cons_zero, List.getElem_cons_succ, List.setIfInBounds_toArray, List.set_cons_zero, List.set_cons_succ]
            refine wpAnyH_take (i := 8) (v := ?_) rfl (by kernel_rfl) (by kernel_rfl) (by kernel_rfl) (fun _ _ _ h => h) (Or.inl ⟨by rfl, ?_⟩) (by assumption) ?_
            rotate_left
            · (intro Y hSw; (try dsimp only at hSw); obtain ⟨hS0, hS1, hS2⟩ := hSw; go_simp; try with_reducible rfl)
            try simp only [Act.put, List.getElem_toArray, List.getElem_cons_zero, List.getElem_cons_succ, List.setIfInBounds_toArray, List.set_cons_zero, List.set_cons_succ]
            refine wpAnyH_take (i := 9) (v := ?_) rfl (by kernel_rfl) (by kernel_rfl) (by kernel_rfl) (fun _ _ _ h => h) (Or.inl ⟨by rfl, ?_⟩) (by assumption) ?_
            rotate_left
            · (intro Y hSw; (try dsimp only at hSw); obtain ⟨hS0, hS1, hS2⟩ := hSw; go_simp; try with_reducible rfl)
            try simp only [Act.put, List.getElem_toArray, List.getElem_cons_zero, List.getElem_cons_succ, List.setIfInBounds_toArray, List.set_cons_zero, List.set_cons_succ]
            refine wpAnyH_take (i := 10) (v := .pointer (some ⟨g5, at' + j, none⟩)) rfl (by kernel_rfl) (by kernel_rfl) (by kernel_rfl) (fun _ _ _ h => h) (Or.inl ⟨by rfl, by intro Y hSw; go_simp; rw [if_pos (by omega), show ((at' : Int) + j).toNat = at' + j by omega]⟩) (by assumption) ?_
            try simp only [Act.put, List.getElem_toArray, List.getElem_cons_zero, List.getElem_cons_succ, List.setIfInBounds_toArray, List.set_cons_zero, List.set_cons_succ]
            refine wpAnyH_ready (rs := [11]) (by kernel_rfl) (by simp) ?_
            refine AllReadyH.cons rfl (fun K hK => ?_) AllReadyH.nil
            go_simp
            refine hK.out _ _ (⟨hXn.cell 6 rfl, hXn.cell 7 rfl, hcn⟩) (fun hHeld => ?_)
            clear hK K
            try simp only [Act.put, List.getElem_toArray, List.getElem_cons_zero, List.getElem_cons_succ, List.setIfInBounds_toArray, List.set_cons_zero, List.set_cons_succ]
            refine wpAnyH_done (by kernel_rfl) ?_ _
            rw [onlyN_normal]
            go_wp2_with fail
            exact ⟨⟨j + 1, by omega, by go_num, Vn, hXn, hRn⟩, by simp [intOf]; omega⟩
          · obtain rfl : j = bs.length := by omega
            rw [List.take_of_length_le (Nat.le_refl _)] at Vj
            go_wp2_with fail
            exact WV.close _ rfl rfl rfl rfl rfl rfl (by go_num) (by omega) Vj I3
end Go.Proofs.Ytleclclncgnelaa
