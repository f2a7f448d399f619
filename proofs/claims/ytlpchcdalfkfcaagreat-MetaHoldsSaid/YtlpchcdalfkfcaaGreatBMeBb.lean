/-
 Package meta: the bytes of a great record, cut into parts. Conditions: a row of as many bytes.
-/
import Derived.Test.YtlpchcdalfkfcaaGreatBPgA
import Derived.Test.YtlpchcdalfkfcaaGreatBMeAa
namespace Go.Proofs.YtlpchcdalfkfcaaGreat
open Go.RowKit Go.ChangeShapes
attribute [local go_sem] Oper.semAt_some
set_option maxHeartbeats 8000000
set_option maxRecDepth 8000

def wG (j : Nat) : Nat := match j with | 0 => 1 | 1 => 1 | 2 => 2 | 3 => 4 | 4 => 4 | 5 => 4 | _ => 0
def oG (j : Nat) : Nat := match j with | 0 => 0 | 1 => 1 | 2 => 2 | 3 => 4 | 4 => 8 | 5 => 12 | _ => 16
def pvG (j : Nat) : Value := .agg #[parG[3 * j]?.getD undef, parG[3 * j + 1]?.getD undef, parG[3 * j + 2]?.getD undef]
structure CutG (b2 gp : Nat) (W : World) : Prop where
 s : Blk W b2 #[.slice (some ⟨gp, 0, none⟩) 6 6, .func (.func 122) #[] #[]] 112
 g : Blk W gp parG 178
theorem cutsG_iter (b2 gp ob g cap : Nat) (hcap : 16 ≤ cap) (hcm : cap ≤ maxLen) :
  IterO Tryz.prog 206 #[.pointer (some ⟨b2, 0, none⟩), .pointer (some ⟨ob, 0, none⟩)] ob (fun _ j => #[pvG j, .slice (some ⟨g, oG j, none⟩) (wG j) (cap - oG j)]) (List.range 6) (CutG b2 gp)
   (fun W => Blk W ob #[.slice (some ⟨g, 0, none⟩) 16 cap] 44) := by
 intro l J Jx W hJ hJx hO hA hY h0 hs
 obtain ⟨hs0, hg0⟩ := hA _ _ h0
 have c0 := hs0.cell 0 (v := .slice (some ⟨gp, 0, none⟩) 6 6) rfl
 unfold maxLen at hcm
 refine calls_in Tryz.func206 rfl ?_; simp only [Tryz.ntmps206, List.size_toArray, List.length_cons, List.length_nil, Nat.reduceAdd, Nat.reduceSub, Array.replicate_succ, Array.replicate_zero, List.push_toArray, List.append_toArray, List.nil_append, List.cons_append]
 gi_wp2_with fail
 gi_loopw [9] (fun i wr => ∃ j : Nat, j ≤ 6 ∧ i = .int .i64 j ∧ J (List.range j) wr ∧ (j < 6 → Blk wr ob #[.slice (some ⟨g, oG j, none⟩) (16 - oG j) (cap - oG j)] 44) ∧ W.heap.size ≤ wr.heap.size) (fun i _ => 6 - (intOf i).toNat)
 case atStart => exact ⟨0, by omega, rfl, h0, fun _ => hs, Nat.le_refl _⟩
 case round =>
  obtain ⟨j, hj, rfl, hJr, hSr0, hsz⟩ := hrel
  clear c0 hs0 hg0 hs h0
  by_cases hlt : j < 6
  ·obtain ⟨hsr, hgr⟩ := hA _ _ hJr
   have hSr := hSr0 hlt
   clear hSr0
   have hY4 := hY (List.range j) j
   rcases (show j = 0 ∨ j = 1 ∨ j = 2 ∨ j = 3 ∨ j = 4 ∨ j = 5 by omega) with rfl | rfl | rfl | rfl | rfl | rfl
   ·have hYj := hY4 [1, 2, 3, 4, 5]
    clear hY4 hY
    have q0 : wr.cell? ⟨gp, 0, none⟩ = some (.int .i64 1) := hgr.cell 0 rfl
    have q1 : wr.cell? ⟨gp, 1, none⟩ = some (.func (.func 114) #[] #[]) := hgr.cell 1 rfl
    have q2 : wr.cell? ⟨gp, 2, none⟩ = some (.func (.func 115) #[] #[]) := hgr.cell 2 rfl
    obtain ⟨p, hp⟩ : ∃ p, wr.heap.size = p := ⟨_, rfl⟩
    obtain ⟨Y1, hY1⟩ : ∃ Y1, wr.alloc (.cells #[.int .i64 1, .func (.func 114) #[] #[], .func (.func 115) #[] #[]] 178) = Y1 := ⟨_, rfl⟩
    have hP1 : Blk Y1 p #[.int .i64 1, .func (.func 114) #[] #[], .func (.func 115) #[] #[]] 178 := by rw [← hY1, ← hp]; exact Blk.new wr _ _
    have hS1 : Blk Y1 ob #[.slice (some ⟨g, 0, none⟩) 16 (cap)] 44 := by rw [← hY1]; exact hSr.alloc _
    have hK1 : Keeps W.heap.size wr Y1.drew := by rw [← hY1]; exact ((Keeps.refl _ wr).alloc hsz _).drew
    have hpw : W.heap.size ≤ p := by rw [← hp]; exact hsz
    have hop : ob < p := by rw [← hp]; exact hSr.lt
    obtain ⟨fn, tmps, assign, body, hy, hR⟩ := (hYj Y1.drew rfl (hJ _ _ _ hJr hK1) (Nat.le_trans hsz hK1.size)).bool
    change (Instr.yield l #[.agg #[.int .i64 1, .func (.func 114) #[] #[], .func (.func 115) #[] #[]], .slice (some ⟨g, 0, none⟩) 1 (cap)]).run Tryz.prog Y1.drew = _ at hy
    have hz1 := hK1.size
    have HSr := Lib.hid hSr
    have HY1 := Lib.hid hY1
    clear hYj hJr hsr hgr hA hK1 hSr hY1
    gi_wp2_with fail
    rw [HY1.out]
    clear HY1 q0 q1 q2
    have p0 : Y1.drew.cell? ⟨p, 0, none⟩ = some (.int .i64 1) := hP1.drew.cell 0 rfl
    have p1 : Y1.drew.cell? ⟨p, 1, none⟩ = some (.func (.func 114) #[] #[]) := hP1.drew.cell 1 rfl
    have p2 : Y1.drew.cell? ⟨p, 2, none⟩ = some (.func (.func 115) #[] #[]) := hP1.drew.cell 2 rfl
    have b0 : Y1.drew.cell? ⟨ob, 0, none⟩ = some (.slice (some ⟨g, 0, none⟩) 16 (cap)) := hS1.drew.cell 0 rfl
    gi_region_with (first | (refine (hR _).mono ?_; rintro e W3 ⟨⟨hs1, hs2⟩, tt, rfl, hJ3, hJx3⟩))
    all_goals
     have hS3 : Blk W3 ob #[.slice (some ⟨g, 0, none⟩) 16 (cap)] 44 := (hs1.2 ob (Nat.le_refl _) (Nat.lt_succ_self _)).trans hS1.drew
     have hP3 : Blk W3 p #[.int .i64 1, .func (.func 114) #[] #[], .func (.func 115) #[] #[]] 178 := (hs2.2 p hpw hP1.drew.lt).trans hP1.drew
     have hz3 := hs2.1
     clear hR hy p0 p1 p2 b0 hs1 hs2 hS1 hP1 hJ hJx HSr
     have b3 := hS3.cell 0 rfl
     have f3 := hS3.frozen 0
     have p3 := hP3.cell 0 (v := .int .i64 1) rfl
     cases tt
     ·gi_wp2_with fail
      exact bodyPost_ret (results_none rfl _ _ _) rfl ⟨⟨_, rfl⟩, .inr (hJx3 (by trivial))⟩
     ·gi_wp2_with fail
      refine ⟨⟨0 + 1, by omega, rfl, hO _ _ _ (by have := hJ3 (by trivial); exact this), fun hlt4 => ?_, by simp; omega⟩, by simp [intOf]⟩
      exact hS3.set 0 _
   ·have hYj := hY4 [2, 3, 4, 5]
    clear hY4 hY
    have q0 : wr.cell? ⟨gp, 3, none⟩ = some (.int .i64 1) := hgr.cell 3 rfl
    have q1 : wr.cell? ⟨gp, 4, none⟩ = some (.nilFunc) := hgr.cell 4 rfl
    have q2 : wr.cell? ⟨gp, 5, none⟩ = some (.nilFunc) := hgr.cell 5 rfl
    obtain ⟨p, hp⟩ : ∃ p, wr.heap.size = p := ⟨_, rfl⟩
    obtain ⟨Y1, hY1⟩ : ∃ Y1, wr.alloc (.cells #[.int .i64 1, .nilFunc, .nilFunc] 178) = Y1 := ⟨_, rfl⟩
    have hP1 : Blk Y1 p #[.int .i64 1, .nilFunc, .nilFunc] 178 := by rw [← hY1, ← hp]; exact Blk.new wr _ _
    have hS1 : Blk Y1 ob #[.slice (some ⟨g, 1, none⟩) 15 (cap - 1)] 44 := by rw [← hY1]; exact hSr.alloc _
    have hK1 : Keeps W.heap.size wr Y1.drew := by rw [← hY1]; exact ((Keeps.refl _ wr).alloc hsz _).drew
    have hpw : W.heap.size ≤ p := by rw [← hp]; exact hsz
    have hop : ob < p := by rw [← hp]; exact hSr.lt
    obtain ⟨fn, tmps, assign, body, hy, hR⟩ := (hYj Y1.drew rfl (hJ _ _ _ hJr hK1) (Nat.le_trans hsz hK1.size)).bool
    change (Instr.yield l #[.agg #[.int .i64 1, .nilFunc, .nilFunc], .slice (some ⟨g, 1, none⟩) 1 (cap - 1)]).run Tryz.prog Y1.drew = _ at hy
    have hz1 := hK1.size
    have HSr := Lib.hid hSr
    have HY1 := Lib.hid hY1
    clear hYj hJr hsr hgr hA hK1 hSr hY1
    gi_wp2_with fail
    rw [HY1.out]
    clear HY1 q0 q1 q2
    have p0 : Y1.drew.cell? ⟨p, 0, none⟩ = some (.int .i64 1) := hP1.drew.cell 0 rfl
    have p1 : Y1.drew.cell? ⟨p, 1, none⟩ = some (.nilFunc) := hP1.drew.cell 1 rfl
    have p2 : Y1.drew.cell? ⟨p, 2, none⟩ = some (.nilFunc) := hP1.drew.cell 2 rfl
    have b0 : Y1.drew.cell? ⟨ob, 0, none⟩ = some (.slice (some ⟨g, 1, none⟩) 15 (cap - 1)) := hS1.drew.cell 0 rfl
    gi_region_with (first | (refine (hR _).mono ?_; rintro e W3 ⟨⟨hs1, hs2⟩, tt, rfl, hJ3, hJx3⟩))
    all_goals
     have hS3 : Blk W3 ob #[.slice (some ⟨g, 1, none⟩) 15 (cap - 1)] 44 := (hs1.2 ob (Nat.le_refl _) (Nat.lt_succ_self _)).trans hS1.drew
     have hP3 : Blk W3 p #[.int .i64 1, .nilFunc, .nilFunc] 178 := (hs2.2 p hpw hP1.drew.lt).trans hP1.drew
     have hz3 := hs2.1
     clear hR hy p0 p1 p2 b0 hs1 hs2 hS1 hP1 hJ hJx HSr
     have b3 := hS3.cell 0 rfl
     have f3 := hS3.frozen 0
     have p3 := hP3.cell 0 (v := .int .i64 1) rfl
     cases tt
     ·gi_wp2_with fail
      exact bodyPost_ret (results_none rfl _ _ _) rfl ⟨⟨_, rfl⟩, .inr (hJx3 (by trivial))⟩
     ·gi_wp2_with fail
      refine ⟨⟨1 + 1, by omega, rfl, hO _ _ _ (by have := hJ3 (by trivial); exact this), fun hlt4 => ?_, by simp; omega⟩, by simp [intOf]⟩
      exact hS3.set 0 _
   ·have hYj := hY4 [3, 4, 5]
    clear hY4 hY
    have q0 : wr.cell? ⟨gp, 6, none⟩ = some (.int .i64 2) := hgr.cell 6 rfl
    have q1 : wr.cell? ⟨gp, 7, none⟩ = some (.func (.func 116) #[] #[]) := hgr.cell 7 rfl
    have q2 : wr.cell? ⟨gp, 8, none⟩ = some (.func (.func 117) #[] #[]) := hgr.cell 8 rfl
    obtain ⟨p, hp⟩ : ∃ p, wr.heap.size = p := ⟨_, rfl⟩
    obtain ⟨Y1, hY1⟩ : ∃ Y1, wr.alloc (.cells #[.int .i64 2, .func (.func 116) #[] #[], .func (.func 117) #[] #[]] 178) = Y1 := ⟨_, rfl⟩
    have hP1 : Blk Y1 p #[.int .i64 2, .func (.func 116) #[] #[], .func (.func 117) #[] #[]] 178 := by rw [← hY1, ← hp]; exact Blk.new wr _ _
    have hS1 : Blk Y1 ob #[.slice (some ⟨g, 2, none⟩) 14 (cap - 2)] 44 := by rw [← hY1]; exact hSr.alloc _
    have hK1 : Keeps W.heap.size wr Y1.drew := by rw [← hY1]; exact ((Keeps.refl _ wr).alloc hsz _).drew
    have hpw : W.heap.size ≤ p := by rw [← hp]; exact hsz
    have hop : ob < p := by rw [← hp]; exact hSr.lt
    obtain ⟨fn, tmps, assign, body, hy, hR⟩ := (hYj Y1.drew rfl (hJ _ _ _ hJr hK1) (Nat.le_trans hsz hK1.size)).bool
    change (Instr.yield l #[.agg #[.int .i64 2, .func (.func 116) #[] #[], .func (.func 117) #[] #[]], .slice (some ⟨g, 2, none⟩) 2 (cap - 2)]).run Tryz.prog Y1.drew = _ at hy
    have hz1 := hK1.size
    have HSr := Lib.hid hSr
    have HY1 := Lib.hid hY1
    clear hYj hJr hsr hgr hA hK1 hSr hY1
    gi_wp2_with fail
    rw [HY1.out]
    clear HY1 q0 q1 q2
    have p0 : Y1.drew.cell? ⟨p, 0, none⟩ = some (.int .i64 2) := hP1.drew.cell 0 rfl
    have p1 : Y1.drew.cell? ⟨p, 1, none⟩ = some (.func (.func 116) #[] #[]) := hP1.drew.cell 1 rfl
    have p2 : Y1.drew.cell? ⟨p, 2, none⟩ = some (.func (.func 117) #[] #[]) := hP1.drew.cell 2 rfl
    have b0 : Y1.drew.cell? ⟨ob, 0, none⟩ = some (.slice (some ⟨g, 2, none⟩) 14 (cap - 2)) := hS1.drew.cell 0 rfl
    gi_region_with (first | (refine (hR _).mono ?_; rintro e W3 ⟨⟨hs1, hs2⟩, tt, rfl, hJ3, hJx3⟩))
    all_goals
     have hS3 : Blk W3 ob #[.slice (some ⟨g, 2, none⟩) 14 (cap - 2)] 44 := (hs1.2 ob (Nat.le_refl _) (Nat.lt_succ_self _)).trans hS1.drew
     have hP3 : Blk W3 p #[.int .i64 2, .func (.func 116) #[] #[], .func (.func 117) #[] #[]] 178 := (hs2.2 p hpw hP1.drew.lt).trans hP1.drew
     have hz3 := hs2.1
     clear hR hy p0 p1 p2 b0 hs1 hs2 hS1 hP1 hJ hJx HSr
     have b3 := hS3.cell 0 rfl
     have f3 := hS3.frozen 0
     have p3 := hP3.cell 0 (v := .int .i64 2) rfl
     cases tt
     ·gi_wp2_with fail
      exact bodyPost_ret (results_none rfl _ _ _) rfl ⟨⟨_, rfl⟩, .inr (hJx3 (by trivial))⟩
     ·gi_wp2_with fail
      refine ⟨⟨2 + 1, by omega, rfl, hO _ _ _ (by have := hJ3 (by trivial); exact this), fun hlt4 => ?_, by simp; omega⟩, by simp [intOf]⟩
      exact hS3.set 0 _
   ·have hYj := hY4 [4, 5]
    clear hY4 hY
    have q0 : wr.cell? ⟨gp, 9, none⟩ = some (.int .i64 4) := hgr.cell 9 rfl
    have q1 : wr.cell? ⟨gp, 10, none⟩ = some (.func (.func 118) #[] #[]) := hgr.cell 10 rfl
    have q2 : wr.cell? ⟨gp, 11, none⟩ = some (.func (.func 119) #[] #[]) := hgr.cell 11 rfl
    obtain ⟨p, hp⟩ : ∃ p, wr.heap.size = p := ⟨_, rfl⟩
    obtain ⟨Y1, hY1⟩ : ∃ Y1, wr.alloc (.cells #[.int .i64 4, .func (.func 118) #[] #[], .func (.func 119) #[] #[]] 178) = Y1 := ⟨_, rfl⟩
    have hP1 : Blk Y1 p #[.int .i64 4, .func (.func 118) #[] #[], .func (.func 119) #[] #[]] 178 := by rw [← hY1, ← hp]; exact Blk.new wr _ _
    have hS1 : Blk Y1 ob #[.slice (some ⟨g, 4, none⟩) 12 (cap - 4)] 44 := by rw [← hY1]; exact hSr.alloc _
    have hK1 : Keeps W.heap.size wr Y1.drew := by rw [← hY1]; exact ((Keeps.refl _ wr).alloc hsz _).drew
    have hpw : W.heap.size ≤ p := by rw [← hp]; exact hsz
    have hop : ob < p := by rw [← hp]; exact hSr.lt
    obtain ⟨fn, tmps, assign, body, hy, hR⟩ := (hYj Y1.drew rfl (hJ _ _ _ hJr hK1) (Nat.le_trans hsz hK1.size)).bool
    change (Instr.yield l #[.agg #[.int .i64 4, .func (.func 118) #[] #[], .func (.func 119) #[] #[]], .slice (some ⟨g, 4, none⟩) 4 (cap - 4)]).run Tryz.prog Y1.drew = _ at hy
    have hz1 := hK1.size
    have HSr := Lib.hid hSr
    have HY1 := Lib.hid hY1
    clear hYj hJr hsr hgr hA hK1 hSr hY1
    gi_wp2_with fail
    rw [HY1.out]
    clear HY1 q0 q1 q2
    have p0 : Y1.drew.cell? ⟨p, 0, none⟩ = some (.int .i64 4) := hP1.drew.cell 0 rfl
    have p1 : Y1.drew.cell? ⟨p, 1, none⟩ = some (.func (.func 118) #[] #[]) := hP1.drew.cell 1 rfl
    have p2 : Y1.drew.cell? ⟨p, 2, none⟩ = some (.func (.func 119) #[] #[]) := hP1.drew.cell 2 rfl
    have b0 : Y1.drew.cell? ⟨ob, 0, none⟩ = some (.slice (some ⟨g, 4, none⟩) 12 (cap - 4)) := hS1.drew.cell 0 rfl
    gi_region_with (first | (refine (hR _).mono ?_; rintro e W3 ⟨⟨hs1, hs2⟩, tt, rfl, hJ3, hJx3⟩))
    all_goals
     have hS3 : Blk W3 ob #[.slice (some ⟨g, 4, none⟩) 12 (cap - 4)] 44 := (hs1.2 ob (Nat.le_refl _) (Nat.lt_succ_self _)).trans hS1.drew
     have hP3 : Blk W3 p #[.int .i64 4, .func (.func 118) #[] #[], .func (.func 119) #[] #[]] 178 := (hs2.2 p hpw hP1.drew.lt).trans hP1.drew
     have hz3 := hs2.1
     clear hR hy p0 p1 p2 b0 hs1 hs2 hS1 hP1 hJ hJx HSr
     have b3 := hS3.cell 0 rfl
     have f3 := hS3.frozen 0
     have p3 := hP3.cell 0 (v := .int .i64 4) rfl
     cases tt
     ·gi_wp2_with fail
      exact bodyPost_ret (results_none rfl _ _ _) rfl ⟨⟨_, rfl⟩, .inr (hJx3 (by trivial))⟩
     ·gi_wp2_with fail
      refine ⟨⟨3 + 1, by omega, rfl, hO _ _ _ (by have := hJ3 (by trivial); exact this), fun hlt4 => ?_, by simp; omega⟩, by simp [intOf]⟩
      exact hS3.set 0 _
   ·have hYj := hY4 [5]
    clear hY4 hY
    have q0 : wr.cell? ⟨gp, 12, none⟩ = some (.int .i64 4) := hgr.cell 12 rfl
    have q1 : wr.cell? ⟨gp, 13, none⟩ = some (.func (.func 120) #[] #[]) := hgr.cell 13 rfl
    have q2 : wr.cell? ⟨gp, 14, none⟩ = some (.func (.func 121) #[] #[]) := hgr.cell 14 rfl
    obtain ⟨p, hp⟩ : ∃ p, wr.heap.size = p := ⟨_, rfl⟩
    obtain ⟨Y1, hY1⟩ : ∃ Y1, wr.alloc (.cells #[.int .i64 4, .func (.func 120) #[] #[], .func (.func 121) #[] #[]] 178) = Y1 := ⟨_, rfl⟩
    have hP1 : Blk Y1 p #[.int .i64 4, .func (.func 120) #[] #[], .func (.func 121) #[] #[]] 178 := by rw [← hY1, ← hp]; exact Blk.new wr _ _
    have hS1 : Blk Y1 ob #[.slice (some ⟨g, 8, none⟩) 8 (cap - 8)] 44 := by rw [← hY1]; exact hSr.alloc _
    have hK1 : Keeps W.heap.size wr Y1.drew := by rw [← hY1]; exact ((Keeps.refl _ wr).alloc hsz _).drew
    have hpw : W.heap.size ≤ p := by rw [← hp]; exact hsz
    have hop : ob < p := by rw [← hp]; exact hSr.lt
    obtain ⟨fn, tmps, assign, body, hy, hR⟩ := (hYj Y1.drew rfl (hJ _ _ _ hJr hK1) (Nat.le_trans hsz hK1.size)).bool
    change (Instr.yield l #[.agg #[.int .i64 4, .func (.func 120) #[] #[], .func (.func 121) #[] #[]], .slice (some ⟨g, 8, none⟩) 4 (cap - 8)]).run Tryz.prog Y1.drew = _ at hy
    have hz1 := hK1.size
    have HSr := Lib.hid hSr
    have HY1 := Lib.hid hY1
    clear hYj hJr hsr hgr hA hK1 hSr hY1
    gi_wp2_with fail
    rw [HY1.out]
    clear HY1 q0 q1 q2
    have p0 : Y1.drew.cell? ⟨p, 0, none⟩ = some (.int .i64 4) := hP1.drew.cell 0 rfl
    have p1 : Y1.drew.cell? ⟨p, 1, none⟩ = some (.func (.func 120) #[] #[]) := hP1.drew.cell 1 rfl
    have p2 : Y1.drew.cell? ⟨p, 2, none⟩ = some (.func (.func 121) #[] #[]) := hP1.drew.cell 2 rfl
    have b0 : Y1.drew.cell? ⟨ob, 0, none⟩ = some (.slice (some ⟨g, 8, none⟩) 8 (cap - 8)) := hS1.drew.cell 0 rfl
    gi_region_with (first | (refine (hR _).mono ?_; rintro e W3 ⟨⟨hs1, hs2⟩, tt, rfl, hJ3, hJx3⟩))
    all_goals
     have hS3 : Blk W3 ob #[.slice (some ⟨g, 8, none⟩) 8 (cap - 8)] 44 := (hs1.2 ob (Nat.le_refl _) (Nat.lt_succ_self _)).trans hS1.drew
     have hP3 : Blk W3 p #[.int .i64 4, .func (.func 120) #[] #[], .func (.func 121) #[] #[]] 178 := (hs2.2 p hpw hP1.drew.lt).trans hP1.drew
     have hz3 := hs2.1
     clear hR hy p0 p1 p2 b0 hs1 hs2 hS1 hP1 hJ hJx HSr
     have b3 := hS3.cell 0 rfl
     have f3 := hS3.frozen 0
     have p3 := hP3.cell 0 (v := .int .i64 4) rfl
     cases tt
     ·gi_wp2_with fail
      exact bodyPost_ret (results_none rfl _ _ _) rfl ⟨⟨_, rfl⟩, .inr (hJx3 (by trivial))⟩
     ·gi_wp2_with fail
      refine ⟨⟨4 + 1, by omega, rfl, hO _ _ _ (by have := hJ3 (by trivial); exact this), fun hlt4 => ?_, by simp; omega⟩, by simp [intOf]⟩
      exact hS3.set 0 _
   ·have hYj := hY4 []
    clear hY4 hY
    have q0 : wr.cell? ⟨gp, 15, none⟩ = some (.int .i64 4) := hgr.cell 15 rfl
    have q1 : wr.cell? ⟨gp, 16, none⟩ = some (.nilFunc) := hgr.cell 16 rfl
    have q2 : wr.cell? ⟨gp, 17, none⟩ = some (.nilFunc) := hgr.cell 17 rfl
    obtain ⟨p, hp⟩ : ∃ p, wr.heap.size = p := ⟨_, rfl⟩
    obtain ⟨Y1, hY1⟩ : ∃ Y1, wr.alloc (.cells #[.int .i64 4, .nilFunc, .nilFunc] 178) = Y1 := ⟨_, rfl⟩
    have hP1 : Blk Y1 p #[.int .i64 4, .nilFunc, .nilFunc] 178 := by rw [← hY1, ← hp]; exact Blk.new wr _ _
    have hS1 : Blk Y1 ob #[.slice (some ⟨g, 12, none⟩) 4 (cap - 12)] 44 := by rw [← hY1]; exact hSr.alloc _
    have hK1 : Keeps W.heap.size wr Y1.drew := by rw [← hY1]; exact ((Keeps.refl _ wr).alloc hsz _).drew
    have hpw : W.heap.size ≤ p := by rw [← hp]; exact hsz
    have hop : ob < p := by rw [← hp]; exact hSr.lt
    obtain ⟨fn, tmps, assign, body, hy, hR⟩ := (hYj Y1.drew rfl (hJ _ _ _ hJr hK1) (Nat.le_trans hsz hK1.size)).bool
    change (Instr.yield l #[.agg #[.int .i64 4, .nilFunc, .nilFunc], .slice (some ⟨g, 12, none⟩) 4 (cap - 12)]).run Tryz.prog Y1.drew = _ at hy
    have hz1 := hK1.size
    have HSr := Lib.hid hSr
    have HY1 := Lib.hid hY1
    clear hYj hJr hsr hgr hA hK1 hSr hY1
    gi_wp2_with fail
    rw [HY1.out]
    clear HY1 q0 q1 q2
    have p0 : Y1.drew.cell? ⟨p, 0, none⟩ = some (.int .i64 4) := hP1.drew.cell 0 rfl
    have p1 : Y1.drew.cell? ⟨p, 1, none⟩ = some (.nilFunc) := hP1.drew.cell 1 rfl
    have p2 : Y1.drew.cell? ⟨p, 2, none⟩ = some (.nilFunc) := hP1.drew.cell 2 rfl
    have b0 : Y1.drew.cell? ⟨ob, 0, none⟩ = some (.slice (some ⟨g, 12, none⟩) 4 (cap - 12)) := hS1.drew.cell 0 rfl
    gi_region_with (first | (refine (hR _).mono ?_; rintro e W3 ⟨⟨hs1, hs2⟩, tt, rfl, hJ3, hJx3⟩))
    all_goals
     have hS3 : Blk W3 ob #[.slice (some ⟨g, 12, none⟩) 4 (cap - 12)] 44 := (hs1.2 ob (Nat.le_refl _) (Nat.lt_succ_self _)).trans hS1.drew
     have hP3 : Blk W3 p #[.int .i64 4, .nilFunc, .nilFunc] 178 := (hs2.2 p hpw hP1.drew.lt).trans hP1.drew
     have hz3 := hs2.1
     clear hR hy p0 p1 p2 b0 hs1 hs2 hS1 hP1 hJ hJx HSr
     have b3 := hS3.cell 0 rfl
     have f3 := hS3.frozen 0
     have p3 := hP3.cell 0 (v := .int .i64 4) rfl
     cases tt
     ·gi_wp2_with fail
      exact bodyPost_ret (results_none rfl _ _ _) rfl ⟨⟨_, rfl⟩, .inr (hJx3 (by trivial))⟩
     ·gi_wp2_with fail
      refine ⟨⟨5 + 1, by omega, rfl, hO _ _ _ (by have := hJ3 (by trivial); exact this), fun hlt4 => ?_, by simp; omega⟩, by simp [intOf]⟩
      exact absurd hlt4 (by omega)
  ·obtain rfl : j = 6 := by omega
   gi_wp2
   go_end0
   exact ⟨⟨_, rfl⟩, .inl hJr⟩
end Go.Proofs.YtlpchcdalfkfcaaGreat

