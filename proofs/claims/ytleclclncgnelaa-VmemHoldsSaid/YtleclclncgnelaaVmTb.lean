/-
  Package pinfoldlaw09: VmemHolds' great loop, a round that is left out. No condition.
-/
import Derived.Test.YtleclclncgnelaaBVmV
namespace Go.Proofs.Ytleclclncgnelaa
open Go.RowKit
attribute [local go_sem] Oper.semAt_some
set_option maxHeartbeats 4000000
set_option maxRecDepth 100000

theorem case_skipV {l : List VAct} {w wr : World} {lv : Value} {k : Mb} {g5 g6 kk : Nat} {s' : Ms} {now who : List Int} {Q0 : Exit → Act → World → Prop} (HY : HolV l w lv) (hlt : kk < l.length) (V' : VB w wr k s' g5 g6 now who) (I' : HI s' now who) (hwhat : True) (hgo : ¬ GoV l[kk])
    (u0 u1 u2 u3 u4 u5 u6 u7 u8 u9 u10 u11 u12 u13 u14 u15 u16 u17 u18 u19 u20 u21 u22 u23 u24 u25 u26 u27 u28 u29 u30 u31 u32 u33 u34 u35 u36 u37 u38 u39 u40 u41 u42 u43 u44 u45 u46 u47 u48 u49 u50 u51 u52 u53 u54 u55 u56 u57 u58 u59 u60 u61 u62 u63 u64 u65 u66 u67 u68 u69 u70 u71 u72 u73 u74 u75 u76 u77 u78 u79 u80 u81 u82 u83 u84 u85 u86 u87 u88 u89 u90 u91 u92 u93 u94 u95 u96 u97 u98 u99 u100 u101 u102 u103 u104 u105 u106 u107 u108 u109 u110 u111 u112 u113 u114 u115 u116 u117 u118 u119 u120 u121 u122 u123 u124 u125 u126 u127 u128 u129 u130 u131 u132 u133 u134 u135 u136 u137 u138 u139 u140 u141 u142 u143 u144 u145 u146 u147 u148 u149 u150 u151 u152 u153 u154 u155 u156 u157 u158 u159 u160 u161 u162 u163 u164 u165 u166 u167 u168 u169 u170 u171 u172 u173 u174 u175 u176 u177 u178 u179 u180 u181 u182 u183 u184 u185 u186 u187 u188 u189 u190 u191 u192 u193 u194 u195 u196 u197 u198 u199 u200 u201 u202 u203 u204 u205 u206 u207 u208 u209 u210 u211 u212 u213 u214 u215 u216 u217 u218 u219 u220 u221 u222 u223 u224 u225 u226 u227 u228 u229 u230 u231 u232 u233 u234 u235 u236 u237 u238 u239 u240 u241 u242 u243 u244 u245 u246 u247 u248 u249 u250 u251 u252 u253 u254 u255 u256 u257 u258 u259 u260 u261 u262 u263 u264 u265 u266 u267 u268 u269 u270 u271 u272 u273 u274 u275 u276 u277 u278 u279 u280 u281 u282 u283 u284 u285 u286 u287 : Value) (h0 : u0 = lv) (h3 : u3 = .pointer (some ⟨k.b, 0, none⟩)) (h5 : u5 = .pointer (some ⟨g5, 0, none⟩)) (h6 : u6 = .pointer (some ⟨g6, 0, none⟩)) (h7 : u7 = .int .i64 kk) :
    Code.wp Try.prog bodyV (Exit.then (fun a' w'' => WV l w k g5 g6 lv (kk + 1) a' w'') Q0) ⟨#[u0, u1, u2, u3, u4, u5, u6, u7, u8, u9, u10, u11, u12, u13, u14, u15, u16, u17, u18, u19, u20, u21, u22, u23, u24, u25, u26, u27, u28, u29, u30, u31, u32, u33, u34, u35, u36, u37, u38, u39, u40, u41, u42, u43, u44, u45, u46, u47, u48, u49, u50, u51, u52, u53, u54, u55, u56, u57, u58, u59, u60, u61, u62, u63, u64, u65, u66, u67, u68, u69, u70, u71, u72, u73, u74, u75, u76, u77, u78, u79, u80, u81, u82, u83, u84, u85, u86, u87, u88, u89, u90, u91, u92, u93, u94, u95, u96, u97, u98, u99, u100, u101, u102, u103, u104, u105, u106, u107, u108, u109, u110, u111, u112, u113, u114, u115, u116, u117, u118, u119, u120, u121, u122, u123, u124, u125, u126, u127, u128, u129, u130, u131, u132, u133, u134, u135, u136, u137, u138, u139, u140, u141, u142, u143, u144, u145, u146, u147, u148, u149, u150, u151, u152, u153, u154, u155, u156, u157, u158, u159, u160, u161, u162, u163, u164, u165, u166, u167, u168, u169, u170, u171, u172, u173, u174, u175, u176, u177, u178, u179, u180, u181, u182, u183, u184, u185, u186, u187, u188, u189, u190, u191, u192, u193, u194, u195, u196, u197, u198, u199, u200, u201, u202, u203, u204, u205, u206, u207, u208, u209, u210, u211, u212, u213, u214, u215, u216, u217, u218, u219, u220, u221, u222, u223, u224, u225, u226, u227, u228, u229, u230, u231, u232, u233, u234, u235, u236, u237, u238, u239, u240, u241, u242, u243, u244, u245, u246, u247, u248, u249, u250, u251, u252, u253, u254, u255, u256, u257, u258, u259, u260, u261, u262, u263, u264, u265, u266, u267, u268, u269, u270, u271, u272, u273, u274, u275, u276, u277, u278, u279, u280, u281, u282, u283, u284, u285, u286, u287], []⟩ wr := by
  subst h0 h3 h5 h6 h7
  have HVL := Lib.hid HY.hv
  have hml : l.length ≤ 9223372036854775807 := by
    obtain ⟨_, _, _, _, h, _⟩ := HY.hv
    unfold maxLen at h
    omega
  obtain ⟨ad, cap, rfl, _⟩ := HY.hv
  obtain ⟨ba, off, rfl, hA⟩ : ∃ b off, ad = some ⟨b, off, none⟩ ∧ ∀ i (h : i < l.length), VActAt w.heap.size w b (off + i * 8) l[i] := by
    obtain ⟨_, _, hv, _, _, h⟩ := HVL.out
    simp only [Value.slice.injEq] at hv
    obtain ⟨rfl, _⟩ := hv
    rcases h with h | h
    · rw [h] at hlt; simp at hlt
    · exact h
  have hAk := (hA kk hlt).below V'.L.bel (Nat.le_refl _)
  have hbl : (l[kk].bs.length : Int) ≤ 600 := by
    have h := HY.hf
    unfold fewV at h
    rw [Bool.and_eq_true, decide_eq_true_eq] at h
    exact (h.1 l[kk] (List.getElem_mem hlt)).1
  clear hA HVL HY
  obtain ⟨⟨what, page, ow, pay, many, may, at_, av, bs⟩, hak⟩ : ∃ a, l[kk] = a := ⟨_, rfl⟩
  rw [hak] at hAk hbl hgo
  clear hak
  obtain ⟨q0, q1, q2, q3, q4, q5, q6, q7, hrow, hblt, hbw, ⟨b00, b01⟩, ⟨⟨b10, b11⟩, ⟨b12, b13⟩, ⟨b14, b15⟩⟩⟩ := hAk
  unfold GoV at hgo
  dsimp only at q0 q1 q2 q3 q4 q5 q6 q7 hrow hbw b00 b01 b10 b11 b12 b13 b14 b15 hbl hgo
  have i0 : (0 : Int) ≤ kk := by omega
  have i1 : (kk : Int) < l.length := by omega
  have HR := Lib.hid hrow
  have HBW := Lib.hid hbw
  clear hbw
  obtain ⟨sa, sc, rfl, _⟩ := hrow
  have hN := V'.L.bel.size
  obtain ⟨wx, hwx⟩ : ∃ wx, wr.alloc (.cells #[.int .i64 what, .int .i64 page, .int .i64 ow, .int .i64 pay, .int .i64 many, .int .i64 may, .int .u32 at_, .slice sa bs.length sc] 37) = wx := ⟨_, rfl⟩
  have hX : Blk wx wr.heap.size #[.int .i64 what, .int .i64 page, .int .i64 ow, .int .i64 pay, .int .i64 many, .int .i64 may, .int .u32 at_, .slice sa bs.length sc] 37 := by rw [← hwx]; exact Blk.new wr _ _
  have kx : Below wr.heap.size wr wx := by rw [← hwx]; exact (Below.refl _ wr).alloc (Nat.le_refl _) _
  have x0 : wx.cell? ⟨wr.heap.size, 0, none⟩ = some (.int .i64 what) := hX.cell 0 rfl
  have x1 : wx.cell? ⟨wr.heap.size, 1, none⟩ = some (.int .i64 page) := hX.cell 1 rfl
  have x2 : wx.cell? ⟨wr.heap.size, 2, none⟩ = some (.int .i64 ow) := hX.cell 2 rfl
  have x4 : wx.cell? ⟨wr.heap.size, 4, none⟩ = some (.int .i64 many) := hX.cell 4 rfl
  have x6 : wx.cell? ⟨wr.heap.size, 6, none⟩ = some (.int .u32 at_) := hX.cell 6 rfl
  have x7 : wx.cell? ⟨wr.heap.size, 7, none⟩ = some (.slice sa bs.length sc) := hX.cell 7 rfl
  have VX := V'.step kx
  conv => arg 2; whnf
  by_cases c1 : page < 0
  · go_wp2_with fail
    exact WV.close _ rfl rfl rfl rfl rfl rfl (by go_num) (by omega) VX I'
  by_cases c2 : 20 ≤ page
  · go_wp2_with fail
    exact WV.close _ rfl rfl rfl rfl rfl rfl (by go_num) (by omega) VX I'
  by_cases c3 : 5120 ≤ at_
  · go_wp2_with fail
    exact WV.close _ rfl rfl rfl rfl rfl rfl (by go_num) (by omega) VX I'
  by_cases c4 : many < 1
  · go_wp2_with fail
    exact WV.close _ rfl rfl rfl rfl rfl rfl (by go_num) (by omega) VX I'
  by_cases c5 : 600 < many
  · go_wp2_with fail
    exact WV.close _ rfl rfl rfl rfl rfl rfl (by go_num) (by omega) VX I'
  by_cases c6 : 5120 < at_ + max many bs.length
  · go_wp2_with fail
    exact WV.close _ rfl rfl rfl rfl rfl rfl (by go_num) (by omega) VX I'
  exact absurd ⟨by omega, by omega, by omega, by omega, by omega, by omega⟩ hgo
end Go.Proofs.Ytleclclncgnelaa
