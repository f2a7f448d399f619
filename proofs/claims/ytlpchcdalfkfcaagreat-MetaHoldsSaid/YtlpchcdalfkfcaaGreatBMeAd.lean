/-
 Chapter 15, plain: the bytes of great records, there and back. No condition.
-/
import Derived.Test.YtlpchcdalfkfcaaGreatBMeAa
import Derived.Test.YtlpchcdalfkfcaaGreatBMeBe
namespace Go.Proofs.YtlpchcdalfkfcaaGreat
set_option maxHeartbeats 1000000
set_option maxRecDepth 4000

def bytG (st pg sz fi : Int) : List Int := bytesI st 1 ++ (bytesI 0 1 ++ (bytesI pg 2 ++ (bytesI sz 4 ++ (bytesI fi 4 ++ bytesI 0 4))))
theorem bytG_len (st pg sz fi : Int) : (bytG st pg sz fi).length = 16 := by simp [bytG, bytesI_len]
theorem bytG_bd (st pg sz fi : Int) : ∀ x ∈ bytG st pg sz fi, 0 ≤ x ∧ x < 256 := by
 intro x hx
 simp only [bytG, List.mem_append] at hx
 rcases hx with h | h | h | h | h | h <;> exact bytesI_bd _ _ x h
theorem grtV_byt {st pg sz fi : Int} (h : rgtG st pg sz fi = true) : grtV (bytG st pg sz fi) = .agg #[.int .i64 st, .int .i64 pg, .int .i64 sz, .int .i64 fi] ∧ grtN (bytG st pg sz fi) = 0 := by
 have hr := h
 unfold rgtG at h
 rw [Bool.and_eq_true, Bool.and_eq_true, Bool.and_eq_true, isSt_iff, inB_iff, inB_iff, inB_iff] at h
 have e : bytG st pg sz fi = [st, 0, pg % 256, pg / 256, sz % 256, sz / 256 % 256, sz / 256 / 256 % 256, sz / 256 / 256 / 256, fi % 256, fi / 256 % 256, fi / 256 / 256 % 256, fi / 256 / 256 / 256, 0, 0, 0, 0] := by
  unfold bytG
  rw [bytesI_1, bytesI_1, bytesI_2, bytesI_4, bytesI_4, bytesI_4, show st % 256 = st by omega, show pg / 256 % 256 = pg / 256 by omega, show sz / 256 / 256 / 256 % 256 = sz / 256 / 256 / 256 by omega, show fi / 256 / 256 / 256 % 256 = fi / 256 / 256 / 256 by omega]
  rfl
 have j : grtJ (bytG st pg sz fi) 6 = (st, pg, sz, fi) := by
  rw [e]
  simp only [grtJ, w4, List.getD_cons_zero, List.getD_cons_succ]
  rw [if_pos (by decide), if_pos (by decide), if_pos (by decide), if_pos (by decide), show pg % 256 + 256 * (pg / 256) = pg by omega, show sz % 256 + 256 * (sz / 256 % 256 + 256 * (sz / 256 / 256 % 256 + 256 * (sz / 256 / 256 / 256))) = sz by omega, show fi % 256 + 256 * (fi / 256 % 256 + 256 * (fi / 256 / 256 % 256 + 256 * (fi / 256 / 256 / 256))) = fi by omega]
 have ok : grtOk (bytG st pg sz fi) = true := by
  unfold grtOk
  rw [j]
  dsimp only
  rw [hr, e]
  rfl
 unfold grtV grtN
 rw [if_pos ok, if_pos ok, j]
 exact ⟨rfl, rfl⟩
end Go.Proofs.YtlpchcdalfkfcaaGreat


/-
 Package meta: the bytes of a record. No condition.
-/
namespace Go.Proofs.YtlpchcdalfkfcaaGreat
open Go.RowKit Go.ChangeShapes
attribute [local go_sem] Oper.semAt_some
set_option maxHeartbeats 8000000
set_option maxRecDepth 8000

theorem mtellR1_calls (st sz nc : Int) (w : World) : Calls Tryz.prog 105 #[.agg #[.int .i64 st, .int .i64 sz, .int .u32 nc]] w fun e w' => e = .returned (.int .i64 st) ∧ Below w.heap.size w w' := by
 go_enter Tryz.func105, Tryz.ntmps105
 go_wp2_with fail
 go_ret
 exact ⟨rfl, (Below.refl _ w).alloc (Nat.le_refl _) _⟩
theorem mtellR3_calls (st sz nc : Int) (w : World) : Calls Tryz.prog 107 #[.agg #[.int .i64 st, .int .i64 sz, .int .u32 nc]] w fun e w' => e = .returned (.int .i64 sz) ∧ Below w.heap.size w w' := by
 go_enter Tryz.func107, Tryz.ntmps107
 go_wp2_with fail
 go_ret
 exact ⟨rfl, (Below.refl _ w).alloc (Nat.le_refl _) _⟩
theorem mtellR5_calls (st sz nc : Int) (h0 : 0 ≤ nc ∧ nc < 4294967296) (w : World) : Calls Tryz.prog 109 #[.agg #[.int .i64 st, .int .i64 sz, .int .u32 nc]] w fun e w' => e = .returned (.int .i64 nc) ∧ Below w.heap.size w w' := by
 go_enter Tryz.func109, Tryz.ntmps109
 go_wp2_with fail
 go_ret
 exact ⟨rfl, (Below.refl _ w).alloc (Nat.le_refl _) _⟩
theorem run_neqt_fnR (f : FuncId) (W : World) : (binOp .neq 166 (.func (.func f) #[] #[]) .nilFunc).run Tryz.prog W = .ok (.bool true) W := by kernel_rfl
theorem run_neqt_nilR (W : World) : (binOp .neq 166 .nilFunc .nilFunc).run Tryz.prog W = .ok (.bool false) W := by kernel_rfl
/-- The bytes of the first j parts. -/
def accR (st sz nc : Int) : Nat → List Int
 | 0 => []
 | 1 => bytesI st 1
 | 2 => bytesI st 1 ++ bytesI 0 1
 | 3 => bytesI st 1 ++ bytesI 0 1 ++ bytesI sz 2
 | _ => bytesI st 1 ++ bytesI 0 1 ++ bytesI sz 2 ++ bytesI nc 4
theorem accR_all (st sz nc : Int) : accR st sz nc 4 = bytR st sz nc := by simp [accR, bytR]
theorem bytesR_ok {w : World} {gp : Nat} (st sz nc : Int) (h : rgtR st sz = true) (hn : 0 ≤ nc ∧ nc < 4294967296) (hG : Blk w gp parR 170) :
  Calls Tryz.prog 125 #[.agg #[.slice (some ⟨gp, 0, none⟩) 4 4, .func (.func 111) #[] #[]], .agg #[.int .i64 st, .int .i64 sz, .int .u32 nc]] w fun e w' =>
   ∃ v, e = .returned v ∧ w'.ownsRow w.heap.size 5 1 v 8 (intVals .u8 (bytR st sz nc)) ∧ Below w.heap.size w w' := by
 obtain ⟨w1, hw1⟩ : ∃ w1, (w.alloc (.cells #[.slice (some ⟨gp, 0, none⟩) 4 4, .func (.func 111) #[] #[]] 106)).alloc (.cells #[.int .i64 st, .int .i64 sz, .int .u32 nc] 47) = w1 := ⟨_, rfl⟩
 have hS1 : Blk w1 w.heap.size #[.slice (some ⟨gp, 0, none⟩) 4 4, .func (.func 111) #[] #[]] 106 := by rw [← hw1]; exact (Blk.new w _ _).alloc _
 have hR1 : Blk w1 (w.heap.size + 1) #[.int .i64 st, .int .i64 sz, .int .u32 nc] 47 := by rw [← hw1]; exact Blk.newAt _ _ _ (by simp)
 have k1 : Below w.heap.size w w1 := by rw [← hw1]; exact ((Below.refl _ w).alloc (Nat.le_refl _) _).alloc (by simp) _
 have hG1 := hG.below k1 hG.lt
 have own1 : w1.ownsRow w1.heap.size 5 1 (.slice none 0 0) 0 (intVals .u8 (accR st sz nc 0)) := ⟨rfl, .inl ⟨rfl, rfl⟩⟩
 unfold rgtR at h
 rw [Bool.and_eq_true, isSt_iff, inB_iff] at h
 obtain ⟨⟨h0, h1⟩, h2, h3⟩ := h
 have c0 := hS1.cell 0 (v := .slice (some ⟨gp, 0, none⟩) 4 4) rfl
 go_enter Tryz.func125, Tryz.ntmps125
 go_wp2_with fail
 clear hw1
 go_loopw [5, 14] (fun v i wr => ∃ j : Nat, j ≤ 4 ∧ i = .int .i64 j ∧ wr.ownsRow w1.heap.size 5 1 v (oR j) (intVals .u8 (accR st sz nc j)) ∧ Below w1.heap.size w1 wr) (fun _ i _ => 4 - (intOf i).toNat)
 case atStart => exact ⟨0, by omega, rfl, own1, Below.refl _ _⟩
 case round =>
  obtain ⟨j, hj, rfl, hown, hb⟩ := hrel
  clear own1
  by_cases hlt : j < 4
  ·clear c0
   rcases (show j = 0 ∨ j = 1 ∨ j = 2 ∨ j = 3 by omega) with rfl | rfl | rfl | rfl
   ·have q0 : wr.cell? ⟨gp, 0, none⟩ = some (.int .i64 1) := (hG1.below hb hG1.lt).cell 0 rfl
    have q1 : wr.cell? ⟨gp, 1, none⟩ = some (.func (.func 105) #[] #[]) := (hG1.below hb hG1.lt).cell 1 rfl
    have q2 : wr.cell? ⟨gp, 2, none⟩ = some (.func (.func 106) #[] #[]) := (hG1.below hb hG1.lt).cell 2 rfl
    obtain ⟨p, hp⟩ : ∃ p, wr.heap.size = p := ⟨_, rfl⟩
    obtain ⟨Y1, hY1⟩ : ∃ Y1, wr.alloc (.cells #[.int .i64 1, .func (.func 105) #[] #[], .func (.func 106) #[] #[]] 170) = Y1 := ⟨_, rfl⟩
    have hP1 : Blk Y1 p #[.int .i64 1, .func (.func 105) #[] #[], .func (.func 106) #[] #[]] 170 := by rw [← hY1, ← hp]; exact Blk.new wr _ _
    have b1 : Below w1.heap.size w1 Y1 := by rw [← hY1]; exact hb.alloc hb.size _
    have ho1 := owns_below hown (show Below wr.heap.size wr Y1 by rw [← hY1]; exact (Below.refl _ wr).alloc (Nat.le_refl _) _) (Nat.le_refl _)
    have HY1 := Lib.hid hY1
    clear hY1 hown hb
    go_wp2_with fail
    rw [HY1.out]
    clear HY1 q0 q1 q2
    have hr1 := hR1.below b1 hR1.lt
    have p0 := hP1.cell 0 (v := .int .i64 1) rfl
    have p1 := hP1.cell 1 (v := .func (.func 105) #[] #[]) rfl
    have hnf := fun W => run_neqt_fnR 105 W
    have d0 := hr1.cell 0 (v := .int .i64 st) rfl
    have d1 := hr1.cell 1 (v := .int .i64 sz) rfl
    have d2 := hr1.cell 2 (v := .int .u32 nc) rfl
    have eg := enters_of (P := Tryz.prog) Tryz.func105 (by kernel_rfl) rfl
    go_wp2_with fail
    rw [hnf]
    go_wp2_with fail
    refine (mtellR1_calls st sz nc _).mono ?_; rintro e Y2 ⟨rfl, k2⟩
    have hP2 := hP1.below k2 hP1.lt
    have b2 := b1.trans (k2.mono b1.size)
    have ho2 := owns_below ho1 k2 (Nat.le_refl _)
    clear p0 p1 eg hnf d0 d1 d2 hr1 hP1 b1 k2 ho1
    have p0 := hP2.cell 0 (v := .int .i64 1) rfl
    go_wp2_with fail
    have hbd := b2.size
    refine (Put_ok (st) 1 (by omega) (by omega) (by decide) (by unfold fitsI; exact decide_eq_true (by omega)) _).mono ?_; rintro e Y3 ⟨v3, rfl, ho3, k3⟩
    have ho4 := owns_below ho2 k3 (Nat.le_refl _)
    have b3 := b2.trans (k3.mono b2.size)
    have hv3 := RowAt.of_owns ho3 (Nat.le_refl _)
    clear ho2 ho3 k3 hP2 p0
    go_wp2_with (at_builtin; refine wpList_append_row rfl _ _ 44 rfl w1.heap.size Tryz.underlying44 info8 (oR 0) (intVals .u8 (accR st sz nc 0)) rfl ho4 Y3.heap.size 1 (intVals .u8 (bytesI (st) 1)) rfl hv3 ?c3 ?c4 ?c5 ?c6 ?c7 ?_)
    case c3 => rw [intVals_len, bytesI_len]
    case c4 => exact intVals_one _ _
    case c5 => unfold maxLen; simp [oR]
    case c6 => simp [oR]
    case c7 => exact b3.size
    intro v5 w5 ho5 hg5
    have b5 : Below w1.heap.size w1 w5 := b3.appended ho4 hg5 (Nat.le_refl _) b3.size
    rw [← intVals_app] at ho5
    clear hg5 ho4 hv3
    go_wp2_with fail
    go_roundw
    case rel => exact ⟨0 + 1, by omega, by go_num, ho5, b5⟩
    case measure => simp [intOf]
   ·have q0 : wr.cell? ⟨gp, 3, none⟩ = some (.int .i64 1) := (hG1.below hb hG1.lt).cell 3 rfl
    have q1 : wr.cell? ⟨gp, 4, none⟩ = some (.nilFunc) := (hG1.below hb hG1.lt).cell 4 rfl
    have q2 : wr.cell? ⟨gp, 5, none⟩ = some (.nilFunc) := (hG1.below hb hG1.lt).cell 5 rfl
    obtain ⟨p, hp⟩ : ∃ p, wr.heap.size = p := ⟨_, rfl⟩
    obtain ⟨Y1, hY1⟩ : ∃ Y1, wr.alloc (.cells #[.int .i64 1, .nilFunc, .nilFunc] 170) = Y1 := ⟨_, rfl⟩
    have hP1 : Blk Y1 p #[.int .i64 1, .nilFunc, .nilFunc] 170 := by rw [← hY1, ← hp]; exact Blk.new wr _ _
    have b1 : Below w1.heap.size w1 Y1 := by rw [← hY1]; exact hb.alloc hb.size _
    have ho1 := owns_below hown (show Below wr.heap.size wr Y1 by rw [← hY1]; exact (Below.refl _ wr).alloc (Nat.le_refl _) _) (Nat.le_refl _)
    have HY1 := Lib.hid hY1
    clear hY1 hown hb
    go_wp2_with fail
    rw [HY1.out]
    clear HY1 q0 q1 q2
    have hr1 := hR1.below b1 hR1.lt
    have p0 := hP1.cell 0 (v := .int .i64 1) rfl
    have p1 := hP1.cell 1 (v := .nilFunc) rfl
    have hnn := fun W => run_neqt_nilR W
    have b2 := b1
    have ho2 := ho1
    have hP2 := hP1
    clear ho1 hr1 hP1 b1
    go_wp2_with fail
    rw [hnn]
    clear p1 hnn
    go_wp2_with fail
    have hbd := b2.size
    refine (Put_ok (0) 1 (by omega) (by omega) (by decide) (by unfold fitsI; exact decide_eq_true (by omega)) _).mono ?_; rintro e Y3 ⟨v3, rfl, ho3, k3⟩
    have ho4 := owns_below ho2 k3 (Nat.le_refl _)
    have b3 := b2.trans (k3.mono b2.size)
    have hv3 := RowAt.of_owns ho3 (Nat.le_refl _)
    clear ho2 ho3 k3 hP2 p0
    go_wp2_with (at_builtin; refine wpList_append_row rfl _ _ 44 rfl w1.heap.size Tryz.underlying44 info8 (oR 1) (intVals .u8 (accR st sz nc 1)) rfl ho4 Y3.heap.size 1 (intVals .u8 (bytesI (0) 1)) rfl hv3 ?c3 ?c4 ?c5 ?c6 ?c7 ?_)
    case c3 => rw [intVals_len, bytesI_len]
    case c4 => exact intVals_one _ _
    case c5 => unfold maxLen; simp [oR]
    case c6 => simp [oR]
    case c7 => exact b3.size
    intro v5 w5 ho5 hg5
    have b5 : Below w1.heap.size w1 w5 := b3.appended ho4 hg5 (Nat.le_refl _) b3.size
    rw [← intVals_app] at ho5
    clear hg5 ho4 hv3
    go_wp2_with fail
    go_roundw
    case rel => exact ⟨1 + 1, by omega, by go_num, ho5, b5⟩
    case measure => simp [intOf]
   ·have q0 : wr.cell? ⟨gp, 6, none⟩ = some (.int .i64 2) := (hG1.below hb hG1.lt).cell 6 rfl
    have q1 : wr.cell? ⟨gp, 7, none⟩ = some (.func (.func 107) #[] #[]) := (hG1.below hb hG1.lt).cell 7 rfl
    have q2 : wr.cell? ⟨gp, 8, none⟩ = some (.func (.func 108) #[] #[]) := (hG1.below hb hG1.lt).cell 8 rfl
    obtain ⟨p, hp⟩ : ∃ p, wr.heap.size = p := ⟨_, rfl⟩
    obtain ⟨Y1, hY1⟩ : ∃ Y1, wr.alloc (.cells #[.int .i64 2, .func (.func 107) #[] #[], .func (.func 108) #[] #[]] 170) = Y1 := ⟨_, rfl⟩
    have hP1 : Blk Y1 p #[.int .i64 2, .func (.func 107) #[] #[], .func (.func 108) #[] #[]] 170 := by rw [← hY1, ← hp]; exact Blk.new wr _ _
    have b1 : Below w1.heap.size w1 Y1 := by rw [← hY1]; exact hb.alloc hb.size _
    have ho1 := owns_below hown (show Below wr.heap.size wr Y1 by rw [← hY1]; exact (Below.refl _ wr).alloc (Nat.le_refl _) _) (Nat.le_refl _)
    have HY1 := Lib.hid hY1
    clear hY1 hown hb
    go_wp2_with fail
    rw [HY1.out]
    clear HY1 q0 q1 q2
    have hr1 := hR1.below b1 hR1.lt
    have p0 := hP1.cell 0 (v := .int .i64 2) rfl
    have p1 := hP1.cell 1 (v := .func (.func 107) #[] #[]) rfl
    have hnf := fun W => run_neqt_fnR 107 W
    have d0 := hr1.cell 0 (v := .int .i64 st) rfl
    have d1 := hr1.cell 1 (v := .int .i64 sz) rfl
    have d2 := hr1.cell 2 (v := .int .u32 nc) rfl
    have eg := enters_of (P := Tryz.prog) Tryz.func107 (by kernel_rfl) rfl
    go_wp2_with fail
    rw [hnf]
    go_wp2_with fail
    refine (mtellR3_calls st sz nc _).mono ?_; rintro e Y2 ⟨rfl, k2⟩
    have hP2 := hP1.below k2 hP1.lt
    have b2 := b1.trans (k2.mono b1.size)
    have ho2 := owns_below ho1 k2 (Nat.le_refl _)
    clear p0 p1 eg hnf d0 d1 d2 hr1 hP1 b1 k2 ho1
    have p0 := hP2.cell 0 (v := .int .i64 2) rfl
    go_wp2_with fail
    have hbd := b2.size
    refine (Put_ok (sz) 2 (by omega) (by omega) (by decide) (by unfold fitsI; exact decide_eq_true (by omega)) _).mono ?_; rintro e Y3 ⟨v3, rfl, ho3, k3⟩
    have ho4 := owns_below ho2 k3 (Nat.le_refl _)
    have b3 := b2.trans (k3.mono b2.size)
    have hv3 := RowAt.of_owns ho3 (Nat.le_refl _)
    clear ho2 ho3 k3 hP2 p0
    go_wp2_with (at_builtin; refine wpList_append_row rfl _ _ 44 rfl w1.heap.size Tryz.underlying44 info8 (oR 2) (intVals .u8 (accR st sz nc 2)) rfl ho4 Y3.heap.size 2 (intVals .u8 (bytesI (sz) 2)) rfl hv3 ?c3 ?c4 ?c5 ?c6 ?c7 ?_)
    case c3 => rw [intVals_len, bytesI_len]
    case c4 => exact intVals_one _ _
    case c5 => unfold maxLen; simp [oR]
    case c6 => simp [oR]
    case c7 => exact b3.size
    intro v5 w5 ho5 hg5
    have b5 : Below w1.heap.size w1 w5 := b3.appended ho4 hg5 (Nat.le_refl _) b3.size
    rw [← intVals_app] at ho5
    clear hg5 ho4 hv3
    go_wp2_with fail
    go_roundw
    case rel => exact ⟨2 + 1, by omega, by go_num, ho5, b5⟩
    case measure => simp [intOf]
   ·have q0 : wr.cell? ⟨gp, 9, none⟩ = some (.int .i64 4) := (hG1.below hb hG1.lt).cell 9 rfl
    have q1 : wr.cell? ⟨gp, 10, none⟩ = some (.func (.func 109) #[] #[]) := (hG1.below hb hG1.lt).cell 10 rfl
    have q2 : wr.cell? ⟨gp, 11, none⟩ = some (.func (.func 110) #[] #[]) := (hG1.below hb hG1.lt).cell 11 rfl
    obtain ⟨p, hp⟩ : ∃ p, wr.heap.size = p := ⟨_, rfl⟩
    obtain ⟨Y1, hY1⟩ : ∃ Y1, wr.alloc (.cells #[.int .i64 4, .func (.func 109) #[] #[], .func (.func 110) #[] #[]] 170) = Y1 := ⟨_, rfl⟩
    have hP1 : Blk Y1 p #[.int .i64 4, .func (.func 109) #[] #[], .func (.func 110) #[] #[]] 170 := by rw [← hY1, ← hp]; exact Blk.new wr _ _
    have b1 : Below w1.heap.size w1 Y1 := by rw [← hY1]; exact hb.alloc hb.size _
    have ho1 := owns_below hown (show Below wr.heap.size wr Y1 by rw [← hY1]; exact (Below.refl _ wr).alloc (Nat.le_refl _) _) (Nat.le_refl _)
    have HY1 := Lib.hid hY1
    clear hY1 hown hb
    go_wp2_with fail
    rw [HY1.out]
    clear HY1 q0 q1 q2
    have hr1 := hR1.below b1 hR1.lt
    have p0 := hP1.cell 0 (v := .int .i64 4) rfl
    have p1 := hP1.cell 1 (v := .func (.func 109) #[] #[]) rfl
    have hnf := fun W => run_neqt_fnR 109 W
    have d0 := hr1.cell 0 (v := .int .i64 st) rfl
    have d1 := hr1.cell 1 (v := .int .i64 sz) rfl
    have d2 := hr1.cell 2 (v := .int .u32 nc) rfl
    have eg := enters_of (P := Tryz.prog) Tryz.func109 (by kernel_rfl) rfl
    go_wp2_with fail
    rw [hnf]
    go_wp2_with fail
    refine (mtellR5_calls st sz nc hn _).mono ?_; rintro e Y2 ⟨rfl, k2⟩
    have hP2 := hP1.below k2 hP1.lt
    have b2 := b1.trans (k2.mono b1.size)
    have ho2 := owns_below ho1 k2 (Nat.le_refl _)
    clear p0 p1 eg hnf d0 d1 d2 hr1 hP1 b1 k2 ho1
    have p0 := hP2.cell 0 (v := .int .i64 4) rfl
    go_wp2_with fail
    have hbd := b2.size
    refine (Put_ok (nc) 4 (by omega) (by omega) (by decide) (by unfold fitsI; exact decide_eq_true (by omega)) _).mono ?_; rintro e Y3 ⟨v3, rfl, ho3, k3⟩
    have ho4 := owns_below ho2 k3 (Nat.le_refl _)
    have b3 := b2.trans (k3.mono b2.size)
    have hv3 := RowAt.of_owns ho3 (Nat.le_refl _)
    clear ho2 ho3 k3 hP2 p0
    go_wp2_with (at_builtin; refine wpList_append_row rfl _ _ 44 rfl w1.heap.size Tryz.underlying44 info8 (oR 3) (intVals .u8 (accR st sz nc 3)) rfl ho4 Y3.heap.size 4 (intVals .u8 (bytesI (nc) 4)) rfl hv3 ?c3 ?c4 ?c5 ?c6 ?c7 ?_)
    case c3 => rw [intVals_len, bytesI_len]
    case c4 => exact intVals_one _ _
    case c5 => unfold maxLen; simp [oR]
    case c6 => simp [oR]
    case c7 => exact b3.size
    intro v5 w5 ho5 hg5
    have b5 : Below w1.heap.size w1 w5 := b3.appended ho4 hg5 (Nat.le_refl _) b3.size
    rw [← intVals_app] at ho5
    clear hg5 ho4 hv3
    go_wp2_with fail
    go_roundw
    case rel => exact ⟨3 + 1, by omega, by go_num, ho5, b5⟩
    case measure => simp [intOf]
  ·obtain rfl : j = 4 := by omega
   rw [accR_all] at hown
   go_wp2_with fail
   go_ret
   exact ⟨_, rfl, owns_weaken hown k1.size, k1.trans (hb.mono k1.size)⟩
end Go.Proofs.YtlpchcdalfkfcaaGreat

