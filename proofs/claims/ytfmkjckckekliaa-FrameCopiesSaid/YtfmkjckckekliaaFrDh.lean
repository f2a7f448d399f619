/-
  Package frame: Owner, Copy. Conditions: a pool, frames of 256 bytes.
-/
import Derived.Test.YtfmkjckckekliaaFrDf
namespace Go.Proofs.Ytfmkjckckekliaa
open Go.RowKit
attribute [local go_sem] Oper.semAt_some
set_option maxHeartbeats 1000000
set_option maxRecDepth 8000

theorem Owner_ok {w : World} {b bf br : Nat} {many : Int} {F : List Fr} {R : List (Int × Int)} (hpo : PoolAt w b bf br many F R) (h256 : ∀ x ∈ F, x.2.2.length = 256) (fr : Int) :
    Calls Try.prog 41 #[.pointer (some ⟨b, 0, none⟩), .int .i64 fr] w fun e w' => e = .returned (.tuple #[.int .i64 (ownF F fr), .bool (inF F fr)]) ∧ Below w.heap.size w w' := by
  go_enter Try.func41, Try.ntmps41
  go_wp2_with fail
  refine (none_live hpo).mono ?_; rintro e w1 ⟨rfl, h1⟩
  have hP1 := hpo.step h1
  obtain ⟨c0, c1, c2⟩ := hP1.cells
  obtain ⟨bs, hcs9, h25⟩ := look_owner F h256 fr
  have hcz := takenA_size (ownF F fr) bs h25
  have hlk := (hP1.fr.lookup (P := Try.prog) Try.underlying72 Try.underlying3 (zero_taken w1) fr).2
  rw [hcs9, hasA_encF] at hlk
  have hfill : (storeCells ⟨w1.heap.size, 0, none⟩ (takenA (ownF F fr) bs).toList).run Try.prog (w1.alloc (.cells Try.zeroCells89 89)) = .ok () (w1.alloc (.cells (takenA (ownF F fr) bs) 89)) := fill_taken w1 _ bs h25
  obtain ⟨o, ho⟩ : ∃ o, ownF F fr = o := ⟨_, rfl⟩
  have HO := Lib.hid ho
  rw [ho] at hcz hlk hfill
  obtain ⟨w2, hw2⟩ : ∃ w2, w1.alloc (.cells (takenA o bs) 89) = w2 := ⟨_, rfl⟩
  have hB : Blk w2 w1.heap.size (takenA o bs) 89 := by rw [← hw2]; exact Blk.new _ _ _
  have k1 : Below w1.heap.size w1 w2 := by rw [← hw2]; exact (Below.refl _ w1).alloc (Nat.le_refl _) _
  rw [hw2] at hfill
  have cc : w2.cell? ⟨w1.heap.size, 0, none⟩ = some (.int .i64 o) := hB.cell 0 rfl
  clear hw2 ho hcs9 hB
  go_wp2_with fail
  go_ret2
  exact ⟨by rw [HO.out]; rfl, h1.trans (k1.mono h1.size)⟩
structure CpS (b bf br : Nat) (many : Int) (Y : World) : Prop where
  c0 : Y.cell? ⟨b, 0, none⟩ = some (.map (some bf))
  c1 : Y.cell? ⟨b, 1, none⟩ = some (.map (some br))
  c2 : Y.cell? ⟨b, 2, none⟩ = some (.int .i64 many)
theorem CpS.of {W : World} {b bf br : Nat} {many : Int} {F : List Fr} {R : List (Int × Int)} (h : PoolAt W b bf br many F R) : CpS b bf br many W := ⟨h.cells.1, h.cells.2.1, h.cells.2.2⟩
theorem Copy_ok {w : World} {b bf br : Nat} {many : Int} {F : List Fr} {R : List (Int × Int)} (hpo : PoolAt w b bf br many F R) :
    Calls Try.prog 24 #[.pointer (some ⟨b, 0, none⟩)] w fun e w' => ∃ b' bf' br', e = .returned (.pointer (some ⟨b', 0, none⟩)) ∧ PoolAt w' b' bf' br' many F R ∧
      w.heap.size ≤ b' ∧ w.heap.size ≤ bf' ∧ w.heap.size ≤ br' ∧ Below w.heap.size w w' := by
  go_enter Try.func24, Try.ntmps24
  go_wp2_with fail
  refine (none_live hpo).mono ?_; rintro e w1 ⟨rfl, h1⟩
  have hP1 := hpo.step h1
  have hz1 := h1.size
  go_wp2_with fail
  refine wp_onlyN ?_
  have hP2 := hP1.step (Below.refl _ w1).drew
  have k2 := (Below.refl w1.heap.size w1).drew
  refine wp_region_held_drew (S := CpS b bf br many) (by kernel_rfl) (CpS.of hP2) (fun hHeld => ?_)
  change wpAnyH _ _ _ _ _ _ _ _ w1.drew
  generalize w1.drew = w2 at hP2 k2 hHeld ⊢
  refine wpAnyH_take (i := 0) (v := ?_) rfl (by kernel_rfl) (by kernel_rfl) (by kernel_rfl) (fun _ _ _ h => h) (Or.inl ⟨by rfl, ?_⟩) (by assumption) ?_
  rotate_left
  · (intro Y hSw; (try dsimp only at hSw); obtain ⟨hS0, hS1, hS2⟩ := hSw; go_simp; try with_reducible rfl)
  try simp only [Act.put, List.getElem_toArray, List.getElem_cons_zero, List.getElem_cons_succ, List.setIfInBounds_toArray, List.set_cons_zero, List.set_cons_succ]
  refine wpAnyH_take (i := 1) (v := ?_) rfl (by kernel_rfl) (by kernel_rfl) (by kernel_rfl) (fun _ _ _ h => h) (Or.inl ⟨by rfl, ?_⟩) (by assumption) ?_
  rotate_left
  · (intro Y hSw; (try dsimp only at hSw); obtain ⟨hS0, hS1, hS2⟩ := hSw; go_simp; try with_reducible rfl)
  try simp only [Act.put, List.getElem_toArray, List.getElem_cons_zero, List.getElem_cons_succ, List.setIfInBounds_toArray, List.set_cons_zero, List.set_cons_succ]
  refine wpAnyH_take (i := 2) (v := ?_) rfl (by kernel_rfl) (by kernel_rfl) (by kernel_rfl) (fun _ _ _ h => h) (Or.inl ⟨by rfl, ?_⟩) (by assumption) ?_
  rotate_left
  · (intro Y hSw; (try dsimp only at hSw); obtain ⟨hS0, hS1, hS2⟩ := hSw; go_simp; try with_reducible rfl)
  try simp only [Act.put, List.getElem_toArray, List.getElem_cons_zero, List.getElem_cons_succ, List.setIfInBounds_toArray, List.set_cons_zero, List.set_cons_succ]
  refine wpAnyH_take (i := 3) (v := ?_) rfl (by kernel_rfl) (by kernel_rfl) (by kernel_rfl) (fun _ _ _ h => h) (Or.inl ⟨by rfl, ?_⟩) (by assumption) ?_
  rotate_left
  · (intro Y hSw; (try dsimp only at hSw); obtain ⟨hS0, hS1, hS2⟩ := hSw; go_simp; try with_reducible rfl)
  try simp only [Act.put, List.getElem_toArray, List.getElem_cons_zero, List.getElem_cons_succ, List.setIfInBounds_toArray, List.set_cons_zero, List.set_cons_succ]
  refine wpAnyH_take (i := 4) (v := ?_) rfl (by kernel_rfl) (by kernel_rfl) (by kernel_rfl) (fun _ _ _ h => h) (Or.inl ⟨by rfl, ?_⟩) (by assumption) ?_
  rotate_left
  · (intro Y hSw; (try dsimp only at hSw); obtain ⟨hS0, hS1, hS2⟩ := hSw; go_simp; try with_reducible rfl)
  try simp only [Act.put, List.getElem_toArray, List.getElem_cons_zero, List.getElem_cons_succ, List.setIfInBounds_toArray, List.set_cons_zero, List.set_cons_succ]
  refine wpAnyH_take (i := 6) (v := ?_) rfl (by kernel_rfl) (by kernel_rfl) (by kernel_rfl) (fun _ _ _ h => h) (Or.inl ⟨by rfl, ?_⟩) (by assumption) ?_
  rotate_left
  · (intro Y hSw; (try dsimp only at hSw); obtain ⟨hS0, hS1, hS2⟩ := hSw; go_simp; try with_reducible rfl)
  try simp only [Act.put, List.getElem_toArray, List.getElem_cons_zero, List.getElem_cons_succ, List.setIfInBounds_toArray, List.set_cons_zero, List.set_cons_succ]
  refine wpAnyH_take (i := 7) (v := ?_) rfl (by kernel_rfl) (by kernel_rfl) (by kernel_rfl) (fun _ _ _ h => h) (Or.inl ⟨by rfl, ?_⟩) (by assumption) ?_
  rotate_left
  · (intro Y hSw; (try dsimp only at hSw); obtain ⟨hS0, hS1, hS2⟩ := hSw; go_simp; try with_reducible rfl)
  try simp only [Act.put, List.getElem_toArray, List.getElem_cons_zero, List.getElem_cons_succ, List.setIfInBounds_toArray, List.set_cons_zero, List.set_cons_succ]
  refine wpAnyH_take (i := 8) (v := ?_) rfl (by kernel_rfl) (by kernel_rfl) (by kernel_rfl) (fun _ _ _ h => h) (Or.inl ⟨by rfl, ?_⟩) (by assumption) ?_
  rotate_left
  · (intro Y hSw; (try dsimp only at hSw); obtain ⟨hS0, hS1, hS2⟩ := hSw; go_simp; try with_reducible rfl)
  try simp only [Act.put, List.getElem_toArray, List.getElem_cons_zero, List.getElem_cons_succ, List.setIfInBounds_toArray, List.set_cons_zero, List.set_cons_succ]
  refine wpAnyH_take (i := 9) (v := ?_) rfl (by kernel_rfl) (by kernel_rfl) (by kernel_rfl) (fun _ _ _ h => h) (Or.inl ⟨by rfl, ?_⟩) (by assumption) ?_
  rotate_left
  · (intro Y hSw; (try dsimp only at hSw); obtain ⟨hS0, hS1, hS2⟩ := hSw; go_simp; try with_reducible rfl)
  try simp only [Act.put, List.getElem_toArray, List.getElem_cons_zero, List.getElem_cons_succ, List.setIfInBounds_toArray, List.set_cons_zero, List.set_cons_succ]
  refine wpAnyH_take (i := 10) (v := ?_) rfl (by kernel_rfl) (by kernel_rfl) (by kernel_rfl) (fun _ _ _ h => h) (Or.inl ⟨by rfl, ?_⟩) (by assumption) ?_
  rotate_left
  · (intro Y hSw; (try dsimp only at hSw); obtain ⟨hS0, hS1, hS2⟩ := hSw; go_simp; try with_reducible rfl)
  try simp only [Act.put, List.getElem_toArray, List.getElem_cons_zero, List.getElem_cons_succ, List.setIfInBounds_toArray, List.set_cons_zero, List.set_cons_succ]
  refine wpAnyH_take (i := 13) (v := ?_) rfl (by kernel_rfl) (by kernel_rfl) (by kernel_rfl) (fun _ _ _ h => h) (Or.inl ⟨by rfl, ?_⟩) (by assumption) ?_
  rotate_left
  · (intro Y hSw; (try dsimp only at hSw); obtain ⟨hS0, hS1, hS2⟩ := hSw; go_simp; try with_reducible rfl)
  try simp only [Act.put, List.getElem_toArray, List.getElem_cons_zero, List.getElem_cons_succ, List.setIfInBounds_toArray, List.set_cons_zero, List.set_cons_succ]
  refine wpAnyH_take (i := 14) (v := ?_) rfl (by kernel_rfl) (by kernel_rfl) (by kernel_rfl) (fun _ _ _ h => h) (Or.inl ⟨by rfl, ?_⟩) (by assumption) ?_
  rotate_left
  · (intro Y hSw; (try dsimp only at hSw); obtain ⟨hS0, hS1, hS2⟩ := hSw; go_simp; try with_reducible rfl)
  try simp only [Act.put, List.getElem_toArray, List.getElem_cons_zero, List.getElem_cons_succ, List.setIfInBounds_toArray, List.set_cons_zero, List.set_cons_succ]
  refine wpAnyH_take (i := 15) (v := ?_) rfl (by kernel_rfl) (by kernel_rfl) (by kernel_rfl) (fun _ _ _ h => h) (Or.inl ⟨by rfl, ?_⟩) (by assumption) ?_
  rotate_left
  · (intro Y hSw; (try dsimp only at hSw); obtain ⟨hS0, hS1, hS2⟩ := hSw; go_simp; try with_reducible rfl)
  try simp only [Act.put, List.getElem_toArray, List.getElem_cons_zero, List.getElem_cons_succ, List.setIfInBounds_toArray, List.set_cons_zero, List.set_cons_succ]
  refine wpAnyH_take (i := 16) (v := ?_) rfl (by kernel_rfl) (by kernel_rfl) (by kernel_rfl) (fun _ _ _ h => h) (Or.inl ⟨by rfl, ?_⟩) (by assumption) ?_
  rotate_left
  · (intro Y hSw; (try dsimp only at hSw); obtain ⟨hS0, hS1, hS2⟩ := hSw; go_simp; try with_reducible rfl)
  try simp only [Act.put, List.getElem_toArray, List.getElem_cons_zero, List.getElem_cons_succ, List.setIfInBounds_toArray, List.set_cons_zero, List.set_cons_succ]
  refine wpAnyH_ready (rs := [5]) (by kernel_rfl) (by simp) ?_
  refine AllReadyH.cons rfl (fun K hK => ?_) AllReadyH.nil
  go_simp
  refine (cloneF_calls hP2.fr).mono ?_; rintro e w3 ⟨rfl, hM1, o1, rfl⟩
  have hP3 := hP2.alloc o1
  have k3 := k2.alloc (by have := k2.size; omega) o1
  have hz2 := k2.size
  have hz3 : (w2.alloc o1).heap.size = w2.heap.size + 1 := by simp
  have HZ3 := Lib.hid hz3
  clear hz3
  generalize w2.alloc o1 = w3 at hM1 hP3 k3 HZ3 hHeld ⊢
  go_simp
  refine hK.out _ _ (CpS.of hP3) (fun hHeld => ?_)
  clear hK K
  try simp only [Act.put, List.getElem_toArray, List.getElem_cons_zero, List.getElem_cons_succ, List.setIfInBounds_toArray, List.set_cons_zero, List.set_cons_succ]
  refine wpAnyH_ready (rs := [11]) (by kernel_rfl) (by simp) ?_
  refine AllReadyH.cons rfl (fun K hK => ?_) AllReadyH.nil
  go_simp
  refine (cloneR_calls hP3.re).mono ?_; rintro e w4 ⟨rfl, hM2, o2, rfl⟩
  have hM1' := hM1.alloc o2
  have k4 := k3.alloc (by have := k3.size; omega) o2
  have hP4 := hP3.alloc o2
  have hz4 : (w3.alloc o2).heap.size = w3.heap.size + 1 := by simp
  have HZ4 := Lib.hid hz4
  clear hz4
  generalize w3.alloc o2 = w4 at hM2 hM1' hP4 k4 HZ4 hHeld ⊢
  go_simp
  refine hK.out _ _ (CpS.of hP4) (fun hHeld => ?_)
  clear hK K
  try simp only [Act.put, List.getElem_toArray, List.getElem_cons_zero, List.getElem_cons_succ, List.setIfInBounds_toArray, List.set_cons_zero, List.set_cons_succ]
  refine wpAnyH_take (i := 12) (v := ?_) rfl (by kernel_rfl) (by kernel_rfl) (by kernel_rfl) (fun _ _ _ h => h) (Or.inl ⟨by rfl, ?_⟩) (by assumption) ?_
  rotate_left
  · (intro Y hSw; (try dsimp only at hSw); obtain ⟨hS0, hS1, hS2⟩ := hSw; go_simp; try with_reducible rfl)
  try simp only [Act.put, List.getElem_toArray, List.getElem_cons_zero, List.getElem_cons_succ, List.setIfInBounds_toArray, List.set_cons_zero, List.set_cons_succ]
  refine wpAnyH_take (i := 17) (v := ?_) rfl (by kernel_rfl) (by kernel_rfl) (by kernel_rfl) (fun _ _ _ h => h) (Or.inl ⟨by rfl, ?_⟩) (by assumption) ?_
  rotate_left
  · (intro Y hSw; (try dsimp only at hSw); obtain ⟨hS0, hS1, hS2⟩ := hSw; go_simp; try with_reducible rfl)
  try simp only [Act.put, List.getElem_toArray, List.getElem_cons_zero, List.getElem_cons_succ, List.setIfInBounds_toArray, List.set_cons_zero, List.set_cons_succ]
  refine wpAnyH_ready (rs := [18]) (by kernel_rfl) (by simp) ?_
  refine AllReadyH.cons rfl (fun K hK => ?_) AllReadyH.nil
  go_simp
  have z3 := HZ3.out
  have z4 := HZ4.out
  have hP5 : PoolAt (w4.alloc (.cells #[.map (some w2.heap.size), .map (some w3.heap.size), .int .i64 many] 76)) w4.heap.size w2.heap.size w3.heap.size many F R :=
    ⟨Blk.new _ _ _, hM1'.alloc _, hM2.alloc _, by omega⟩
  have k5 := k4.alloc (by have := k4.size; omega) (.cells #[.map (some w2.heap.size), .map (some w3.heap.size), .int .i64 many] 76)
  have e5 : w4.heap.size = w2.heap.size + 1 + 1 := by omega
  rw [e5] at hP5
  refine hK.out _ _ (CpS.of (hP4.alloc _)) (fun hHeld => ?_)
  clear hK K
  try simp only [Act.put, List.getElem_toArray, List.getElem_cons_zero, List.getElem_cons_succ, List.setIfInBounds_toArray, List.set_cons_zero, List.set_cons_succ]
  refine wpAnyH_take (i := 19) (v := ?_) rfl (by kernel_rfl) (by kernel_rfl) (by kernel_rfl) (fun _ _ _ h => h) (Or.inl ⟨by rfl, ?_⟩) (by assumption) ?_
  rotate_left
  · (intro Y hSw; (try dsimp only at hSw); obtain ⟨hS0, hS1, hS2⟩ := hSw; go_simp; try with_reducible rfl)
  try simp only [Act.put, List.getElem_toArray, List.getElem_cons_zero, List.getElem_cons_succ, List.setIfInBounds_toArray, List.set_cons_zero, List.set_cons_succ]
  refine wpAnyH_done (by kernel_rfl) ?_ _
  rw [onlyN_normal]
  go_wp2_with fail
  go_ret
  exact ⟨_, _, _, rfl, hP5, by omega, by omega, by omega, h1.trans (k5.mono hz1)⟩
end Go.Proofs.Ytfmkjckckekliaa
