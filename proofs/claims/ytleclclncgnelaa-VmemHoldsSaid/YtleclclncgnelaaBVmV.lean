/-
  Package pinfoldlaw09: a memory beside the law's own books. No condition.
-/
import Derived.Test.YtleclclncgnelaaVmS
import Derived.Test.YtleclclncgnelaaVmU
import Derived.Deep.DeepCutAuto
import Derived.Deep.CutBlock
namespace Go.Proofs.Ytleclclncgnelaa
open Go.ChangeShapes Go.WideShapes Go.ChangeAt Go.RowKit
attribute [local go_sem] Oper.semAt_some
set_option maxHeartbeats 4000000
set_option maxRecDepth 8000

theorem Blk.ne_t {W : World} {b g : Nat} {cs cs' : Array Value} {t t' : TypeId} (h : Blk W b cs t) (k : Blk W g cs' t') (ht : t ≠ t') : b ≠ g := by
  rintro rfl
  unfold Blk at h k
  rw [h] at k
  cases k
  exact ht rfl
structure VB (w0 W : World) (k : Mb) (s : Ms) (g5 g6 : Nat) (now who : List Int) : Prop where
  L : LivM w0 W k s
  b5 : Blk W g5 (intVals .u8 now).toArray 31
  b6 : Blk W g6 (intVals .i64 who).toArray 32
  lo : w0.heap.size ≤ g5 ∧ w0.heap.size ≤ g6
section
variable {w0 W W' : World} {k : Mb} {s s' : Ms} {g5 g6 : Nat} {now who : List Int}
theorem VB.ne (h : VB w0 W k s g5 g6 now who) : g5 ≠ g6 := h.b5.ne_t h.b6 (by decide)
theorem VB.step (h : VB w0 W k s g5 g6 now who) (j : Below W.heap.size W W') : VB w0 W' k s g5 g6 now who := ⟨h.L.step j, h.b5.below j h.b5.lt, h.b6.below j h.b6.lt, h.lo⟩
theorem VB.chg (h : VB w0 W k s g5 g6 now who) (L : LivM w0 W' k s') (c : ChgM k W W') : VB w0 W' k s' g5 g6 now who := ⟨L, c.cells h.L.m h.b5, c.cells h.L.m h.b6, h.lo⟩
theorem LivM.setc {c i : Nat} {cs : Array Value} {t : TypeId} (h : LivM w0 W k s) (hb : Blk W c cs t) (h1 : t ≠ 53) (h2 : t ≠ 75) (h3 : t ≠ 71) (hc : w0.heap.size ≤ c) (v : Value) : LivM w0 (W.setCell ⟨c, i, none⟩ v) k s :=
  ⟨h.m.setc' hb (h.m.blk.ne_t hb (Ne.symm h1)) (h.m.tb.blk.ne_t hb (Ne.symm h2)) (h.m.pl.blk.ne_t hb (Ne.symm h3)) v, h.gd, h.bel.setCell hc v, h.lo⟩
theorem toArr_set (l : List Value) (i : Nat) (x : Value) : l.toArray.setIfInBounds i x = (l.set i x).toArray := by simp
theorem VB.set5 (h : VB w0 W k s g5 g6 now who) (i : Nat) (y : Int) : VB w0 (W.setCell ⟨g5, i, none⟩ (.int .u8 y)) k s g5 g6 (now.set i y) who := by
  refine ⟨h.L.setc h.b5 (by decide) (by decide) (by decide) h.lo.1 _, ?_, h.b6.setOther _ _ (Ne.symm h.ne), h.lo⟩
  have := h.b5.set i (.int .u8 y)
  rw [toArr_set] at this
  unfold intVals at this ⊢
  rw [List.map_set]
  exact this
theorem VB.set6 (h : VB w0 W k s g5 g6 now who) (i : Nat) (y : Int) : VB w0 (W.setCell ⟨g6, i, none⟩ (.int .i64 y)) k s g5 g6 now (who.set i y) := by
  refine ⟨h.L.setc h.b6 (by decide) (by decide) (by decide) h.lo.2 _, h.b5.setOther _ _ h.ne, ?_, h.lo⟩
  have := h.b6.set i (.int .i64 y)
  rw [toArr_set] at this
  unfold intVals at this ⊢
  rw [List.map_set]
  exact this
theorem VB.c5 (h : VB w0 W k s g5 g6 now who) (i : Nat) (hi : i < now.length) : W.cell? ⟨g5, i, none⟩ = some (.int .u8 (now.getD i 0)) := h.b5.cell i (by unfold intVals; simp [hi])
theorem VB.c6 (h : VB w0 W k s g5 g6 now who) (i : Nat) (hi : i < who.length) : W.cell? ⟨g6, i, none⟩ = some (.int .i64 (who.getD i 0)) := h.b6.cell i (by unfold intVals; simp [hi])
end
theorem and_one (x : Int) : bits .and .i64 x 1 = 0 ∨ bits .and .i64 x 1 = 1 := by
  have h : ∃ n : Nat, n < 2 ∧ bits .and .i64 x 1 = IntKind.i64.wrap n := ⟨(BitVec.ofInt 64 x &&& BitVec.ofInt 64 1).toNat, by
    rw [BitVec.toNat_and, show (BitVec.ofInt 64 1).toNat = 1 by decide, Nat.and_one_is_mod]
    omega, rfl⟩
  obtain ⟨n, hn, e⟩ := h
  rw [e]
  match n, hn with
  | 0, _ => left; rfl
  | 1, _ => right; rfl
theorem zero_now : Try.zeroCells31 = (intVals .u8 (List.replicate 5120 0)).toArray := by kernel_rfl
theorem zero_who : (Array.mk (List.replicate 20 (.int .i64 0)) : Array Value) = (intVals .i64 (List.replicate 20 0)).toArray := by rfl
end Go.Proofs.Ytleclclncgnelaa

/-
  Package pinfoldlaw09: VmemHolds' great loop, its parts. No condition.
-/
namespace Go.Proofs.Ytleclclncgnelaa
open Go.RowKit
set_option maxHeartbeats 4000000
set_option maxRecDepth 100000

def loopIn : Code → Option Code
  | .loop c => some c
  | .seq a b => match loopIn a with
    | some c => some c
    | none => loopIn b
  | .block _ c => loopIn c
  | .scope c => loopIn c
  | .cond _ a b => match loopIn a with
    | some c => some c
    | none => loopIn b
  | _ => none
noncomputable def bodyV : Code := ((Try.f3.body.bind loopIn).getD .skip)
structure HolV (l : List VAct) (w : World) (lv : Value) : Prop where
  hv : VActsAt w.heap.size w lv l
  hf : fewV l 40 = true
def GoV (a : VAct) : Prop := 0 ≤ a.page ∧ a.page < 20 ∧ a.at_ < 5120 ∧ 1 ≤ a.many ∧ a.many ≤ 600 ∧ a.at_ + max a.many a.bs.length ≤ 5120
instance (a : VAct) : Decidable (GoV a) := by unfold GoV; infer_instance
/-- The frame at the head of a round. -/
def WV (l : List VAct) (w : World) (k : Mb) (g5 g6 : Nat) (lv : Value) (kk : Nat) (a : Act) (w' : World) : Prop :=
  ∃ (u : Nat → Value) (s : Ms) (now who : List Int), kk ≤ l.length ∧ VB w w' k s g5 g6 now who ∧ HI s now who ∧ a = ⟨#[u 0, u 1, u 2, u 3, u 4, u 5, u 6, u 7, u 8, u 9, u 10, u 11, u 12, u 13, u 14, u 15, u 16, u 17, u 18, u 19, u 20, u 21, u 22, u 23, u 24, u 25, u 26, u 27, u 28, u 29, u 30, u 31, u 32, u 33, u 34, u 35, u 36, u 37, u 38, u 39, u 40, u 41, u 42, u 43, u 44, u 45, u 46, u 47, u 48, u 49, u 50, u 51, u 52, u 53, u 54, u 55, u 56, u 57, u 58, u 59, u 60, u 61, u 62, u 63, u 64, u 65, u 66, u 67, u 68, u 69, u 70, u 71, u 72, u 73, u 74, u 75, u 76, u 77, u 78, u 79, u 80, u 81, u 82, u 83, u 84, u 85, u 86, u 87, u 88, u 89, u 90, u 91, u 92, u 93, u 94, u 95, u 96, u 97, u 98, u 99, u 100, u 101, u 102, u 103, u 104, u 105, u 106, u 107, u 108, u 109, u 110, u 111, u 112, u 113, u 114, u 115, u 116, u 117, u 118, u 119, u 120, u 121, u 122, u 123, u 124, u 125, u 126, u 127, u 128, u 129, u 130, u 131, u 132, u 133, u 134, u 135, u 136, u 137, u 138, u 139, u 140, u 141, u 142, u 143, u 144, u 145, u 146, u 147, u 148, u 149, u 150, u 151, u 152, u 153, u 154, u 155, u 156, u 157, u 158, u 159, u 160, u 161, u 162, u 163, u 164, u 165, u 166, u 167, u 168, u 169, u 170, u 171, u 172, u 173, u 174, u 175, u 176, u 177, u 178, u 179, u 180, u 181, u 182, u 183, u 184, u 185, u 186, u 187, u 188, u 189, u 190, u 191, u 192, u 193, u 194, u 195, u 196, u 197, u 198, u 199, u 200, u 201, u 202, u 203, u 204, u 205, u 206, u 207, u 208, u 209, u 210, u 211, u 212, u 213, u 214, u 215, u 216, u 217, u 218, u 219, u 220, u 221, u 222, u 223, u 224, u 225, u 226, u 227, u 228, u 229, u 230, u 231, u 232, u 233, u 234, u 235, u 236, u 237, u 238, u 239, u 240, u 241, u 242, u 243, u 244, u 245, u 246, u 247, u 248, u 249, u 250, u 251, u 252, u 253, u 254, u 255, u 256, u 257, u 258, u 259, u 260, u 261, u 262, u 263, u 264, u 265, u 266, u 267, u 268, u 269, u 270, u 271, u 272, u 273, u 274, u 275, u 276, u 277, u 278, u 279, u 280, u 281, u 282, u 283, u 284, u 285, u 286, u 287], []⟩ ∧ u 0 = lv ∧ u 3 = .pointer (some ⟨k.b, 0, none⟩) ∧ u 5 = .pointer (some ⟨g5, 0, none⟩) ∧ u 6 = .pointer (some ⟨g6, 0, none⟩) ∧ u 7 = .int .i64 kk
theorem arr_of (t : Array Value) (h : t.size = 288) : t = ((List.range 288).map fun i => t.getD i undef).toArray := by
  refine Array.ext (by simp [h]) fun i h1 h2 => ?_
  simp only [List.getElem_toArray, List.getElem_map, List.getElem_range]
  rw [Array.getD_eq_getD_getElem?, Array.getElem?_eq_getElem h1]
  rfl
theorem WV.close {l : List VAct} {w w' : World} {k : Mb} {g5 g6 : Nat} {lv x7 : Value} {kk : Nat} {s : Ms} {now who : List Int} (t : Array Value) (h : t.size = 288) (h0 : t.getD 0 undef = lv) (h3 : t.getD 3 undef = .pointer (some ⟨k.b, 0, none⟩)) (h5 : t.getD 5 undef = .pointer (some ⟨g5, 0, none⟩)) (h6 : t.getD 6 undef = .pointer (some ⟨g6, 0, none⟩)) (h7 : t.getD 7 undef = x7)
    (hx : x7 = .int .i64 kk) (hk : kk ≤ l.length) (V : VB w w' k s g5 g6 now who) (I : HI s now who) : WV l w k g5 g6 lv kk ⟨t, []⟩ w' := by
  refine ⟨fun i => t.getD i undef, s, now, who, hk, V, I, ?_, h0, h3, h5, h6, h7.trans hx⟩
  have e := arr_of t h
  have e2 : ((List.range 288).map fun i => t.getD i undef) = (List.range 288).map fun i => t.getD i undef := rfl
  generalize (fun i => t.getD i undef) = u at e ⊢
  rw [e]
  rfl
theorem putL_nil (l : List Int) (n : Nat) : putL l n [] = l := by unfold putL; simp
theorem putL_length (l bs : List Int) (n : Nat) (h : n + bs.length ≤ l.length) : (putL l n bs).length = l.length := by unfold putL; simp; omega
theorem VB.row5 {w0 W : World} {k : Mb} {s : Ms} {g5 g6 : Nat} {now who : List Int} (h : VB w0 W k s g5 g6 now who) (hl : now.length = 5120) (a m c : Nat) (hm : a + m ≤ 5120) (hc : m ≤ c) :
    RowAt W.heap.size W (.slice (some ⟨g5, a, none⟩) m c) ((now.drop a).take m).length (intVals .u8 ((now.drop a).take m)) := by
  have e : ((now.drop a).take m).length = m := by rw [List.length_take, List.length_drop]; omega
  rw [e]
  refine ⟨some ⟨g5, a, none⟩, c, rfl, ⟨hc, fun e => by cases e⟩, .inr ⟨g5, a, rfl, h.b5.lt, fun i hi => ?_⟩⟩
  have hi' : i < m := by unfold intVals at hi; rw [List.length_map, e] at hi; exact hi
  rw [h.c5 (a + i) (by omega)]
  unfold intVals
  rw [List.getElem?_map, List.getElem?_take_of_lt hi', List.getElem?_drop, List.getElem?_eq_getElem (by omega), List.getD_eq_getElem?_getD, List.getElem?_eq_getElem (by omega)]
  rfl
theorem slice5 (g at_ j : Nat) (h : at_ < 5120) (h2 : at_ + j ≤ 5120) (W : World) :
    (Instr.sliceAt 31 (.pointer (some ⟨g, 0, none⟩)) (some (.int .i64 (at_ : Int))) (some (.int .i64 ((at_ : Int) + j))) none).run Try.prog W = .ok (.slice (some ⟨g, at_, none⟩) j (5120 - at_)) W := by
  have hal : Try.prog.arrayLen 31 = 5120 := by kernel_rfl
  have hsz : (sizeOf (Try.prog.elem 31)).run Try.prog W = .ok 1 W := by kernel_rfl
  have := run_sliceAt_array_lh (P := Try.prog) W 31 ⟨g, 0, none⟩ (by kernel_rfl) .i64 .i64 at_ ((at_ : Int) + j) (by omega) (by omega) (by rw [hal]; omega)
  rw [this, hal, hsz]
  have e1 : ((at_ : Int)).toNat = at_ := by omega
  have e2 : ((at_ : Int) + j).toNat = at_ + j := by omega
  have e3 : (⟨g, 0, none⟩ : Addr).add at_ = ⟨g, at_, none⟩ := by unfold Addr.add; split <;> simp_all
  rw [e1, e2]
  show Result.ok (slicedAt _ _ _ _ 1) W = _
  unfold slicedAt
  rw [if_neg (by omega), Nat.mul_one, e3, Nat.add_sub_cancel_left]
theorem wrap_at (a : Nat) (h : a ≤ 5120) : IntKind.i64.wrap (a : Int) = a := IntWalk.i64_in _ (by omega)
theorem wrap_at2 (a j : Nat) (h : a + j ≤ 5120) : IntKind.i64.wrap ((a : Int) + j) = a + j := IntWalk.i64_in _ (by omega)
end Go.Proofs.Ytleclclncgnelaa
