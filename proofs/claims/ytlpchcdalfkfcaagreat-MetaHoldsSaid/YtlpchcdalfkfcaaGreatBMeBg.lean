/-
 Package meta: the bytes of a great record. No condition.
-/
import Derived.Test.YtlpchcdalfkfcaaGreatBMeAd
namespace Go.Proofs.YtlpchcdalfkfcaaGreat
open Go.RowKit Go.ChangeShapes
attribute [local go_sem] Oper.semAt_some
set_option maxHeartbeats 8000000
set_option maxRecDepth 8000

theorem mtellG1_calls (st pg sz fi : Int) (w : World) : Calls Tryz.prog 114 #[.agg #[.int .i64 st, .int .i64 pg, .int .i64 sz, .int .i64 fi]] w fun e w' => e = .returned (.int .i64 st) ∧ Below w.heap.size w w' := by
 go_enter Tryz.func114, Tryz.ntmps114
 go_wp2_with fail
 go_ret
 exact ⟨rfl, (Below.refl _ w).alloc (Nat.le_refl _) _⟩
theorem mtellG3_calls (st pg sz fi : Int) (w : World) : Calls Tryz.prog 116 #[.agg #[.int .i64 st, .int .i64 pg, .int .i64 sz, .int .i64 fi]] w fun e w' => e = .returned (.int .i64 pg) ∧ Below w.heap.size w w' := by
 go_enter Tryz.func116, Tryz.ntmps116
 go_wp2_with fail
 go_ret
 exact ⟨rfl, (Below.refl _ w).alloc (Nat.le_refl _) _⟩
theorem mtellG5_calls (st pg sz fi : Int) (w : World) : Calls Tryz.prog 118 #[.agg #[.int .i64 st, .int .i64 pg, .int .i64 sz, .int .i64 fi]] w fun e w' => e = .returned (.int .i64 sz) ∧ Below w.heap.size w w' := by
 go_enter Tryz.func118, Tryz.ntmps118
 go_wp2_with fail
 go_ret
 exact ⟨rfl, (Below.refl _ w).alloc (Nat.le_refl _) _⟩
theorem mtellG7_calls (st pg sz fi : Int) (w : World) : Calls Tryz.prog 120 #[.agg #[.int .i64 st, .int .i64 pg, .int .i64 sz, .int .i64 fi]] w fun e w' => e = .returned (.int .i64 fi) ∧ Below w.heap.size w w' := by
 go_enter Tryz.func120, Tryz.ntmps120
 go_wp2_with fail
 go_ret
 exact ⟨rfl, (Below.refl _ w).alloc (Nat.le_refl _) _⟩
theorem run_neqt_fnG (f : FuncId) (W : World) : (binOp .neq 174 (.func (.func f) #[] #[]) .nilFunc).run Tryz.prog W = .ok (.bool true) W := by kernel_rfl
theorem run_neqt_nilG (W : World) : (binOp .neq 174 .nilFunc .nilFunc).run Tryz.prog W = .ok (.bool false) W := by kernel_rfl
/-- The bytes of the first j parts. -/
def accG (st pg sz fi : Int) : Nat → List Int
 | 0 => []
 | 1 => bytesI st 1
 | 2 => bytesI st 1 ++ bytesI 0 1
 | 3 => bytesI st 1 ++ bytesI 0 1 ++ bytesI pg 2
 | 4 => bytesI st 1 ++ bytesI 0 1 ++ bytesI pg 2 ++ bytesI sz 4
 | 5 => bytesI st 1 ++ bytesI 0 1 ++ bytesI pg 2 ++ bytesI sz 4 ++ bytesI fi 4
 | _ => bytesI st 1 ++ bytesI 0 1 ++ bytesI pg 2 ++ bytesI sz 4 ++ bytesI fi 4 ++ bytesI 0 4
theorem accG_all (st pg sz fi : Int) : accG st pg sz fi 6 = bytG st pg sz fi := by simp [accG, bytG]
theorem bytesG_ok {w : World} {gp : Nat} (st pg sz fi : Int) (h : rgtG st pg sz fi = true) (hG : Blk w gp parG 178) :
  Calls Tryz.prog 127 #[.agg #[.slice (some ⟨gp, 0, none⟩) 6 6, .func (.func 122) #[] #[]], .agg #[.int .i64 st, .int .i64 pg, .int .i64 sz, .int .i64 fi]] w fun e w' =>
   ∃ v, e = .returned v ∧ w'.ownsRow w.heap.size 5 1 v 16 (intVals .u8 (bytG st pg sz fi)) ∧ Below w.heap.size w w' := by
 obtain ⟨w1, hw1⟩ : ∃ w1, (w.alloc (.cells #[.slice (some ⟨gp, 0, none⟩) 6 6, .func (.func 122) #[] #[]] 112)).alloc (.cells #[.int .i64 st, .int .i64 pg, .int .i64 sz, .int .i64 fi] 54) = w1 := ⟨_, rfl⟩
 have hS1 : Blk w1 w.heap.size #[.slice (some ⟨gp, 0, none⟩) 6 6, .func (.func 122) #[] #[]] 112 := by rw [← hw1]; exact (Blk.new w _ _).alloc _
 have hR1 : Blk w1 (w.heap.size + 1) #[.int .i64 st, .int .i64 pg, .int .i64 sz, .int .i64 fi] 54 := by rw [← hw1]; exact Blk.newAt _ _ _ (by simp)
 have k1 : Below w.heap.size w w1 := by rw [← hw1]; exact ((Below.refl _ w).alloc (Nat.le_refl _) _).alloc (by simp) _
 have hG1 := hG.below k1 hG.lt
 have own1 : w1.ownsRow w1.heap.size 5 1 (.slice none 0 0) 0 (intVals .u8 (accG st pg sz fi 0)) := ⟨rfl, .inl ⟨rfl, rfl⟩⟩
 unfold rgtG at h
 rw [Bool.and_eq_true, Bool.and_eq_true, Bool.and_eq_true, isSt_iff, inB_iff, inB_iff, inB_iff] at h
 obtain ⟨⟨h0, h1⟩, ⟨h2, h3⟩, ⟨h4, h5⟩, h6, h7⟩ := h
 have c0 := hS1.cell 0 (v := .slice (some ⟨gp, 0, none⟩) 6 6) rfl
 go_enter Tryz.func127, Tryz.ntmps127
 go_wp2_with fail
 clear hw1
 go_loopw [5, 14] (fun v i wr => ∃ j : Nat, j ≤ 6 ∧ i = .int .i64 j ∧ wr.ownsRow w1.heap.size 5 1 v (oG j) (intVals .u8 (accG st pg sz fi j)) ∧ Below w1.heap.size w1 wr) (fun _ i _ => 6 - (intOf i).toNat)
 case atStart => exact ⟨0, by omega, rfl, own1, Below.refl _ _⟩
 case round =>
  obtain ⟨j, hj, rfl, hown, hb⟩ := hrel
  clear own1
  by_cases hlt : j < 6
  ·clear c0
   rcases (show j = 0 ∨ j = 1 ∨ j = 2 ∨ j = 3 ∨ j = 4 ∨ j = 5 by omega) with rfl | rfl | rfl | rfl | rfl | rfl
   ·have q0 : wr.cell? ⟨gp, 0, none⟩ = some (.int .i64 1) := (hG1.below hb hG1.lt).cell 0 rfl
    have q1 : wr.cell? ⟨gp, 1, none⟩ = some (.func (.func 114) #[] #[]) := (hG1.below hb hG1.lt).cell 1 rfl
    have q2 : wr.cell? ⟨gp, 2, none⟩ = some (.func (.func 115) #[] #[]) := (hG1.below hb hG1.lt).cell 2 rfl
    obtain ⟨p, hp⟩ : ∃ p, wr.heap.size = p := ⟨_, rfl⟩
    obtain ⟨Y1, hY1⟩ : ∃ Y1, wr.alloc (.cells #[.int .i64 1, .func (.func 114) #[] #[], .func (.func 115) #[] #[]] 178) = Y1 := ⟨_, rfl⟩
    have hP1 : Blk Y1 p #[.int .i64 1, .func (.func 114) #[] #[], .func (.func 115) #[] #[]] 178 := by rw [← hY1, ← hp]; exact Blk.new wr _ _
    have b1 : Below w1.heap.size w1 Y1 := by rw [← hY1]; exact hb.alloc hb.size _
    have ho1 := owns_below hown (show Below wr.heap.size wr Y1 by rw [← hY1]; exact (Below.refl _ wr).alloc (Nat.le_refl _) _) (Nat.le_refl _)
    have HY1 := Lib.hid hY1
    clear hY1 hown hb
    go_wp2_with fail
    rw [HY1.out]
    clear HY1 q0 q1 q2
    have hr1 := hR1.below b1 hR1.lt
    have p0 := hP1.cell 0 (v := .int .i64 1) rfl
    have p1 := hP1.cell 1 (v := .func (.func 114) #[] #[]) rfl
    have hnf := fun W => run_neqt_fnG 114 W
    have d0 := hr1.cell 0 (v := .int .i64 st) rfl
    have d1 := hr1.cell 1 (v := .int .i64 pg) rfl
    have d2 := hr1.cell 2 (v := .int .i64 sz) rfl
    have d3 := hr1.cell 3 (v := .int .i64 fi) rfl
    have eg := enters_of (P := Tryz.prog) Tryz.func114 (by kernel_rfl) rfl
    go_wp2_with fail
    rw [hnf]
    go_wp2_with fail
    refine (mtellG1_calls st pg sz fi _).mono ?_; rintro e Y2 ⟨rfl, k2⟩
    have hP2 := hP1.below k2 hP1.lt
    have b2 := b1.trans (k2.mono b1.size)
    have ho2 := owns_below ho1 k2 (Nat.le_refl _)
    clear p0 p1 eg hnf d0 d1 d2 d3 hr1 hP1 b1 k2 ho1
    have p0 := hP2.cell 0 (v := .int .i64 1) rfl
    go_wp2_with fail
    have hbd := b2.size
    refine (Put_ok (st) 1 (by omega) (by omega) (by decide) (by unfold fitsI; exact decide_eq_true (by omega)) _).mono ?_; rintro e Y3 ⟨v3, rfl, ho3, k3⟩
    have ho4 := owns_below ho2 k3 (Nat.le_refl _)
    have b3 := b2.trans (k3.mono b2.size)
    have hv3 := RowAt.of_owns ho3 (Nat.le_refl _)
    clear ho2 ho3 k3 hP2 p0
    go_wp2_with (at_builtin; refine wpList_append_row rfl _ _ 44 rfl w1.heap.size Tryz.underlying44 info8 (oG 0) (intVals .u8 (accG st pg sz fi 0)) rfl ho4 Y3.heap.size 1 (intVals .u8 (bytesI (st) 1)) rfl hv3 ?c3 ?c4 ?c5 ?c6 ?c7 ?_)
    case c3 => rw [intVals_len, bytesI_len]
    case c4 => exact intVals_one _ _
    case c5 => unfold maxLen; simp [oG]
    case c6 => simp [oG]
    case c7 => exact b3.size
    intro v5 w5 ho5 hg5
    have b5 : Below w1.heap.size w1 w5 := b3.appended ho4 hg5 (Nat.le_refl _) b3.size
    rw [← intVals_app] at ho5
    clear hg5 ho4 hv3
    go_wp2_with fail
    go_roundw
    case rel => exact ⟨0 + 1, by omega, by go_num, ho5, b5⟩
    case measure => simp [intOf]
   ·have q0 : wr.cell? ⟨gp, 3, none⟩ = some (.int .i64 1) := (hG1.below hb hG1.lt).cell 3 rfl
    have q1 : wr.cell? ⟨gp, 4, none⟩ = some (.nilFunc) := (hG1.below hb hG1.lt).cell 4 rfl
    have q2 : wr.cell? ⟨gp, 5, none⟩ = some (.nilFunc) := (hG1.below hb hG1.lt).cell 5 rfl
    obtain ⟨p, hp⟩ : ∃ p, wr.heap.size = p := ⟨_, rfl⟩
    obtain ⟨Y1, hY1⟩ : ∃ Y1, wr.alloc (.cells #[.int .i64 1, .nilFunc, .nilFunc] 178) = Y1 := ⟨_, rfl⟩
    have hP1 : Blk Y1 p #[.int .i64 1, .nilFunc, .nilFunc] 178 := by rw [← hY1, ← hp]; exact Blk.new wr _ _
    have b1 : Below w1.heap.size w1 Y1 := by rw [← hY1]; exact hb.alloc hb.size _
    have ho1 := owns_below hown (show Below wr.heap.size wr Y1 by rw [← hY1]; exact (Below.refl _ wr).alloc (Nat.le_refl _) _) (Nat.le_refl _)
    have HY1 := Lib.hid hY1
    clear hY1 hown hb
    go_wp2_with fail
    rw [HY1.out]
    clear HY1 q0 q1 q2
    have hr1 := hR1.below b1 hR1.lt
    have p0 := hP1.cell 0 (v := .int .i64 1) rfl
    have p1 := hP1.cell 1 (v := .nilFunc) rfl
    have hnn := fun W => run_neqt_nilG W
    have b2 := b1
    have ho2 := ho1
    have hP2 := hP1
    clear ho1 hr1 hP1 b1
    go_wp2_with fail
    rw [hnn]
    clear p1 hnn
    go_wp2_with fail
    have hbd := b2.size
    refine (Put_ok (0) 1 (by omega) (by omega) (by decide) (by unfold fitsI; exact decide_eq_true (by omega)) _).mono ?_; rintro e Y3 ⟨v3, rfl, ho3, k3⟩
    have ho4 := owns_below ho2 k3 (Nat.le_refl _)
    have b3 := b2.trans (k3.mono b2.size)
    have hv3 := RowAt.of_owns ho3 (Nat.le_refl _)
    clear ho2 ho3 k3 hP2 p0
    go_wp2_with (at_builtin; refine wpList_append_row rfl _ _ 44 rfl w1.heap.size Tryz.underlying44 info8 (oG 1) (intVals .u8 (accG st pg sz fi 1)) rfl ho4 Y3.heap.size 1 (intVals .u8 (bytesI (0) 1)) rfl hv3 ?c3 ?c4 ?c5 ?c6 ?c7 ?_)
    case c3 => rw [intVals_len, bytesI_len]
    case c4 => exact intVals_one _ _
    case c5 => unfold maxLen; simp [oG]
    case c6 => simp [oG]
    case c7 => exact b3.size
    intro v5 w5 ho5 hg5
    have b5 : Below w1.heap.size w1 w5 := b3.appended ho4 hg5 (Nat.le_refl _) b3.size
    rw [← intVals_app] at ho5
    clear hg5 ho4 hv3
    go_wp2_with fail
    go_roundw
    case rel => exact ⟨1 + 1, by omega, by go_num, ho5, b5⟩
    case measure => simp [intOf]
   ·have q0 : wr.cell? ⟨gp, 6, none⟩ = some (.int .i64 2) := (hG1.below hb hG1.lt).cell 6 rfl
    have q1 : wr.cell? ⟨gp, 7, none⟩ = some (.func (.func 116) #[] #[]) := (hG1.below hb hG1.lt).cell 7 rfl
    have q2 : wr.cell? ⟨gp, 8, none⟩ = some (.func (.func 117) #[] #[]) := (hG1.below hb hG1.lt).cell 8 rfl
    obtain ⟨p, hp⟩ : ∃ p, wr.heap.size = p := ⟨_, rfl⟩
    obtain ⟨Y1, hY1⟩ : ∃ Y1, wr.alloc (.cells #[.int .i64 2, .func (.func 116) #[] #[], .func (.func 117) #[] #[]] 178) = Y1 := ⟨_, rfl⟩
    have hP1 : Blk Y1 p #[.int .i64 2, .func (.func 116) #[] #[], .func (.func 117) #[] #[]] 178 := by rw [← hY1, ← hp]; exact Blk.new wr _ _
    have b1 : Below w1.heap.size w1 Y1 := by rw [← hY1]; exact hb.alloc hb.size _
    have ho1 := owns_below hown (show Below wr.heap.size wr Y1 by rw [← hY1]; exact (Below.refl _ wr).alloc (Nat.le_refl _) _) (Nat.le_refl _)
    have HY1 := Lib.hid hY1
    clear hY1 hown hb
    go_wp2_with fail
    rw [HY1.out]
    clear HY1 q0 q1 q2
    have hr1 := hR1.below b1 hR1.lt
    have p0 := hP1.cell 0 (v := .int .i64 2) rfl
    have p1 := hP1.cell 1 (v := .func (.func 116) #[] #[]) rfl
    have hnf := fun W => run_neqt_fnG 116 W
    have d0 := hr1.cell 0 (v := .int .i64 st) rfl
    have d1 := hr1.cell 1 (v := .int .i64 pg) rfl
    have d2 := hr1.cell 2 (v := .int .i64 sz) rfl
    have d3 := hr1.cell 3 (v := .int .i64 fi) rfl
    have eg := enters_of (P := Tryz.prog) Tryz.func116 (by kernel_rfl) rfl
    go_wp2_with fail
    rw [hnf]
    go_wp2_with fail
    refine (mtellG3_calls st pg sz fi _).mono ?_; rintro e Y2 ⟨rfl, k2⟩
    have hP2 := hP1.below k2 hP1.lt
    have b2 := b1.trans (k2.mono b1.size)
    have ho2 := owns_below ho1 k2 (Nat.le_refl _)
    clear p0 p1 eg hnf d0 d1 d2 d3 hr1 hP1 b1 k2 ho1
    have p0 := hP2.cell 0 (v := .int .i64 2) rfl
    go_wp2_with fail
    have hbd := b2.size
    refine (Put_ok (pg) 2 (by omega) (by omega) (by decide) (by unfold fitsI; exact decide_eq_true (by omega)) _).mono ?_; rintro e Y3 ⟨v3, rfl, ho3, k3⟩
    have ho4 := owns_below ho2 k3 (Nat.le_refl _)
    have b3 := b2.trans (k3.mono b2.size)
    have hv3 := RowAt.of_owns ho3 (Nat.le_refl _)
    clear ho2 ho3 k3 hP2 p0
    go_wp2_with (at_builtin; refine wpList_append_row rfl _ _ 44 rfl w1.heap.size Tryz.underlying44 info8 (oG 2) (intVals .u8 (accG st pg sz fi 2)) rfl ho4 Y3.heap.size 2 (intVals .u8 (bytesI (pg) 2)) rfl hv3 ?c3 ?c4 ?c5 ?c6 ?c7 ?_)
    case c3 => rw [intVals_len, bytesI_len]
    case c4 => exact intVals_one _ _
    case c5 => unfold maxLen; simp [oG]
    case c6 => simp [oG]
    case c7 => exact b3.size
    intro v5 w5 ho5 hg5
    have b5 : Below w1.heap.size w1 w5 := b3.appended ho4 hg5 (Nat.le_refl _) b3.size
    rw [← intVals_app] at ho5
    clear hg5 ho4 hv3
    go_wp2_with fail
    go_roundw
    case rel => exact ⟨2 + 1, by omega, by go_num, ho5, b5⟩
    case measure => simp [intOf]
   ·have q0 : wr.cell? ⟨gp, 9, none⟩ = some (.int .i64 4) := (hG1.below hb hG1.lt).cell 9 rfl
    have q1 : wr.cell? ⟨gp, 10, none⟩ = some (.func (.func 118) #[] #[]) := (hG1.below hb hG1.lt).cell 10 rfl
    have q2 : wr.cell? ⟨gp, 11, none⟩ = some (.func (.func 119) #[] #[]) := (hG1.below hb hG1.lt).cell 11 rfl
    obtain ⟨p, hp⟩ : ∃ p, wr.heap.size = p := ⟨_, rfl⟩
    obtain ⟨Y1, hY1⟩ : ∃ Y1, wr.alloc (.cells #[.int .i64 4, .func (.func 118) #[] #[], .func (.func 119) #[] #[]] 178) = Y1 := ⟨_, rfl⟩
    have hP1 : Blk Y1 p #[.int .i64 4, .func (.func 118) #[] #[], .func (.func 119) #[] #[]] 178 := by rw [← hY1, ← hp]; exact Blk.new wr _ _
    have b1 : Below w1.heap.size w1 Y1 := by rw [← hY1]; exact hb.alloc hb.size _
    have ho1 := owns_below hown (show Below wr.heap.size wr Y1 by rw [← hY1]; exact (Below.refl _ wr).alloc (Nat.le_refl _) _) (Nat.le_refl _)
    have HY1 := Lib.hid hY1
    clear hY1 hown hb
    go_wp2_with fail
    rw [HY1.out]
    clear HY1 q0 q1 q2
    have hr1 := hR1.below b1 hR1.lt
    have p0 := hP1.cell 0 (v := .int .i64 4) rfl
    have p1 := hP1.cell 1 (v := .func (.func 118) #[] #[]) rfl
    have hnf := fun W => run_neqt_fnG 118 W
    have d0 := hr1.cell 0 (v := .int .i64 st) rfl
    have d1 := hr1.cell 1 (v := .int .i64 pg) rfl
    have d2 := hr1.cell 2 (v := .int .i64 sz) rfl
    have d3 := hr1.cell 3 (v := .int .i64 fi) rfl
    have eg := enters_of (P := Tryz.prog) Tryz.func118 (by kernel_rfl) rfl
    go_wp2_with fail
    rw [hnf]
    go_wp2_with fail
    refine (mtellG5_calls st pg sz fi _).mono ?_; rintro e Y2 ⟨rfl, k2⟩
    have hP2 := hP1.below k2 hP1.lt
    have b2 := b1.trans (k2.mono b1.size)
    have ho2 := owns_below ho1 k2 (Nat.le_refl _)
    clear p0 p1 eg hnf d0 d1 d2 d3 hr1 hP1 b1 k2 ho1
    have p0 := hP2.cell 0 (v := .int .i64 4) rfl
    go_wp2_with fail
    have hbd := b2.size
    refine (Put_ok (sz) 4 (by omega) (by omega) (by decide) (by unfold fitsI; exact decide_eq_true (by omega)) _).mono ?_; rintro e Y3 ⟨v3, rfl, ho3, k3⟩
    have ho4 := owns_below ho2 k3 (Nat.le_refl _)
    have b3 := b2.trans (k3.mono b2.size)
    have hv3 := RowAt.of_owns ho3 (Nat.le_refl _)
    clear ho2 ho3 k3 hP2 p0
    go_wp2_with (at_builtin; refine wpList_append_row rfl _ _ 44 rfl w1.heap.size Tryz.underlying44 info8 (oG 3) (intVals .u8 (accG st pg sz fi 3)) rfl ho4 Y3.heap.size 4 (intVals .u8 (bytesI (sz) 4)) rfl hv3 ?c3 ?c4 ?c5 ?c6 ?c7 ?_)
    case c3 => rw [intVals_len, bytesI_len]
    case c4 => exact intVals_one _ _
    case c5 => unfold maxLen; simp [oG]
    case c6 => simp [oG]
    case c7 => exact b3.size
    intro v5 w5 ho5 hg5
    have b5 : Below w1.heap.size w1 w5 := b3.appended ho4 hg5 (Nat.le_refl _) b3.size
    rw [← intVals_app] at ho5
    clear hg5 ho4 hv3
    go_wp2_with fail
    go_roundw
    case rel => exact ⟨3 + 1, by omega, by go_num, ho5, b5⟩
    case measure => simp [intOf]
   ·have q0 : wr.cell? ⟨gp, 12, none⟩ = some (.int .i64 4) := (hG1.below hb hG1.lt).cell 12 rfl
    have q1 : wr.cell? ⟨gp, 13, none⟩ = some (.func (.func 120) #[] #[]) := (hG1.below hb hG1.lt).cell 13 rfl
    have q2 : wr.cell? ⟨gp, 14, none⟩ = some (.func (.func 121) #[] #[]) := (hG1.below hb hG1.lt).cell 14 rfl
    obtain ⟨p, hp⟩ : ∃ p, wr.heap.size = p := ⟨_, rfl⟩
    obtain ⟨Y1, hY1⟩ : ∃ Y1, wr.alloc (.cells #[.int .i64 4, .func (.func 120) #[] #[], .func (.func 121) #[] #[]] 178) = Y1 := ⟨_, rfl⟩
    have hP1 : Blk Y1 p #[.int .i64 4, .func (.func 120) #[] #[], .func (.func 121) #[] #[]] 178 := by rw [← hY1, ← hp]; exact Blk.new wr _ _
    have b1 : Below w1.heap.size w1 Y1 := by rw [← hY1]; exact hb.alloc hb.size _
    have ho1 := owns_below hown (show Below wr.heap.size wr Y1 by rw [← hY1]; exact (Below.refl _ wr).alloc (Nat.le_refl _) _) (Nat.le_refl _)
    have HY1 := Lib.hid hY1
    clear hY1 hown hb
    go_wp2_with fail
    rw [HY1.out]
    clear HY1 q0 q1 q2
    have hr1 := hR1.below b1 hR1.lt
    have p0 := hP1.cell 0 (v := .int .i64 4) rfl
    have p1 := hP1.cell 1 (v := .func (.func 120) #[] #[]) rfl
    have hnf := fun W => run_neqt_fnG 120 W
    have d0 := hr1.cell 0 (v := .int .i64 st) rfl
    have d1 := hr1.cell 1 (v := .int .i64 pg) rfl
    have d2 := hr1.cell 2 (v := .int .i64 sz) rfl
    have d3 := hr1.cell 3 (v := .int .i64 fi) rfl
    have eg := enters_of (P := Tryz.prog) Tryz.func120 (by kernel_rfl) rfl
    go_wp2_with fail
    rw [hnf]
    go_wp2_with fail
    refine (mtellG7_calls st pg sz fi _).mono ?_; rintro e Y2 ⟨rfl, k2⟩
    have hP2 := hP1.below k2 hP1.lt
    have b2 := b1.trans (k2.mono b1.size)
    have ho2 := owns_below ho1 k2 (Nat.le_refl _)
    clear p0 p1 eg hnf d0 d1 d2 d3 hr1 hP1 b1 k2 ho1
    have p0 := hP2.cell 0 (v := .int .i64 4) rfl
    go_wp2_with fail
    have hbd := b2.size
    refine (Put_ok (fi) 4 (by omega) (by omega) (by decide) (by unfold fitsI; exact decide_eq_true (by omega)) _).mono ?_; rintro e Y3 ⟨v3, rfl, ho3, k3⟩
    have ho4 := owns_below ho2 k3 (Nat.le_refl _)
    have b3 := b2.trans (k3.mono b2.size)
    have hv3 := RowAt.of_owns ho3 (Nat.le_refl _)
    clear ho2 ho3 k3 hP2 p0
    go_wp2_with (at_builtin; refine wpList_append_row rfl _ _ 44 rfl w1.heap.size Tryz.underlying44 info8 (oG 4) (intVals .u8 (accG st pg sz fi 4)) rfl ho4 Y3.heap.size 4 (intVals .u8 (bytesI (fi) 4)) rfl hv3 ?c3 ?c4 ?c5 ?c6 ?c7 ?_)
    case c3 => rw [intVals_len, bytesI_len]
    case c4 => exact intVals_one _ _
    case c5 => unfold maxLen; simp [oG]
    case c6 => simp [oG]
    case c7 => exact b3.size
    intro v5 w5 ho5 hg5
    have b5 : Below w1.heap.size w1 w5 := b3.appended ho4 hg5 (Nat.le_refl _) b3.size
    rw [← intVals_app] at ho5
    clear hg5 ho4 hv3
    go_wp2_with fail
    go_roundw
    case rel => exact ⟨4 + 1, by omega, by go_num, ho5, b5⟩
    case measure => simp [intOf]
   ·have q0 : wr.cell? ⟨gp, 15, none⟩ = some (.int .i64 4) := (hG1.below hb hG1.lt).cell 15 rfl
    have q1 : wr.cell? ⟨gp, 16, none⟩ = some (.nilFunc) := (hG1.below hb hG1.lt).cell 16 rfl
    have q2 : wr.cell? ⟨gp, 17, none⟩ = some (.nilFunc) := (hG1.below hb hG1.lt).cell 17 rfl
    obtain ⟨p, hp⟩ : ∃ p, wr.heap.size = p := ⟨_, rfl⟩
    obtain ⟨Y1, hY1⟩ : ∃ Y1, wr.alloc (.cells #[.int .i64 4, .nilFunc, .nilFunc] 178) = Y1 := ⟨_, rfl⟩
    have hP1 : Blk Y1 p #[.int .i64 4, .nilFunc, .nilFunc] 178 := by rw [← hY1, ← hp]; exact Blk.new wr _ _
    have b1 : Below w1.heap.size w1 Y1 := by rw [← hY1]; exact hb.alloc hb.size _
    have ho1 := owns_below hown (show Below wr.heap.size wr Y1 by rw [← hY1]; exact (Below.refl _ wr).alloc (Nat.le_refl _) _) (Nat.le_refl _)
    have HY1 := Lib.hid hY1
    clear hY1 hown hb
    go_wp2_with fail
    rw [HY1.out]
    clear HY1 q0 q1 q2
    have hr1 := hR1.below b1 hR1.lt
    have p0 := hP1.cell 0 (v := .int .i64 4) rfl
    have p1 := hP1.cell 1 (v := .nilFunc) rfl
    have hnn := fun W => run_neqt_nilG W
    have b2 := b1
    have ho2 := ho1
    have hP2 := hP1
    clear ho1 hr1 hP1 b1
    go_wp2_with fail
    rw [hnn]
    clear p1 hnn
    go_wp2_with fail
    have hbd := b2.size
    refine (Put_ok (0) 4 (by omega) (by omega) (by decide) (by unfold fitsI; exact decide_eq_true (by omega)) _).mono ?_; rintro e Y3 ⟨v3, rfl, ho3, k3⟩
    have ho4 := owns_below ho2 k3 (Nat.le_refl _)
    have b3 := b2.trans (k3.mono b2.size)
    have hv3 := RowAt.of_owns ho3 (Nat.le_refl _)
    clear ho2 ho3 k3 hP2 p0
    go_wp2_with (at_builtin; refine wpList_append_row rfl _ _ 44 rfl w1.heap.size Tryz.underlying44 info8 (oG 5) (intVals .u8 (accG st pg sz fi 5)) rfl ho4 Y3.heap.size 4 (intVals .u8 (bytesI (0) 4)) rfl hv3 ?c3 ?c4 ?c5 ?c6 ?c7 ?_)
    case c3 => rw [intVals_len, bytesI_len]
    case c4 => exact intVals_one _ _
    case c5 => unfold maxLen; simp [oG]
    case c6 => simp [oG]
    case c7 => exact b3.size
    intro v5 w5 ho5 hg5
    have b5 : Below w1.heap.size w1 w5 := b3.appended ho4 hg5 (Nat.le_refl _) b3.size
    rw [← intVals_app] at ho5
    clear hg5 ho4 hv3
    go_wp2_with fail
    go_roundw
    case rel => exact ⟨5 + 1, by omega, by go_num, ho5, b5⟩
    case measure => simp [intOf]
  ·obtain rfl : j = 6 := by omega
   rw [accG_all] at hown
   go_wp2_with fail
   go_ret
   exact ⟨_, rfl, owns_weaken hown k1.size, k1.trans (hb.mono k1.size)⟩
end Go.Proofs.YtlpchcdalfkfcaaGreat

