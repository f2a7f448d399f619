/-
  The reference's Look. Conditions: the bounds of the kinds; lengths up to maxLen.
-/
import Derived.Test.YtackenlfnecanaaSealF
namespace Go.Proofs.Ytackenlfnecanaa
open Go.RowKit
attribute [local go_sem] Oper.semAt_some
set_option maxHeartbeats 1000000
set_option maxRecDepth 4000

theorem rLook_ok (key at_ c s n : Int) (hk : 0 ≤ key) (hk' : key < 18446744073709551616) (ha : 0 ≤ at_) (ha' : at_ < 4294967296) (hn : 0 ≤ n) (hn' : n < 4294967296) (hr : rightI c s = true) (v u : Value) (h l : List Int) (hwh : ∀ x ∈ h, 0 ≤ x ∧ x < 256) (hwl : ∀ x ∈ l, 0 ≤ x ∧ x < 256) (B : Nat) (w : World) (hB : B ≤ w.heap.size) (hv : RowAt B w v h.length (intVals .u8 h)) (hu : RowAt B w u l.length (intVals .u8 l)) :
    Calls Try.prog 18 #[.int .u64 key, .int .u32 at_, .agg #[.int .i64 c, .int .i64 s, .int .u32 n], v, u] w fun e w' =>
      e = .returned (.int .i64 (lookI h l (sealB (foldI [key, at_]) (wordI c s n)) (sealB (foldI [at_, key]) (wordI c s n)))) ∧ Below w.heap.size w w' := by
  have hse := str_beq h (sealB (foldI [key, at_]) (wordI c s n)) hwh (sealB_bytes _ _)
  have hse2 := str_beq l (sealB (foldI [at_, key]) (wordI c s n)) hwl (sealB_bytes _ _)
  obtain ⟨q, hqd⟩ : ∃ q, decide (h = sealB (foldI [key, at_]) (wordI c s n)) = q := ⟨_, rfl⟩
  obtain ⟨q2, hqd2⟩ : ∃ q, decide (l = sealB (foldI [at_, key]) (wordI c s n)) = q := ⟨_, rfl⟩
  rw [hqd] at hse
  rw [hqd2] at hse2
  have HQ := Lib.hid hqd
  have HQ2 := Lib.hid hqd2
  clear hqd hqd2
  obtain ⟨w0, hw0⟩ : ∃ w0, w.alloc (.cells #[.int .i64 c, .int .i64 s, .int .u32 n] 27) = w0 := ⟨_, rfl⟩
  have hX : Blk w0 w.heap.size #[.int .i64 c, .int .i64 s, .int .u32 n] 27 := by rw [← hw0]; exact Blk.new w _ _
  have hb0 : Below w.heap.size w w0 := by rw [← hw0]; exact (Below.refl _ w).alloc (Nat.le_refl _) _
  have z0 := hb0.size
  have HS := Lib.hid (fun (Y : World) (k : Below w0.heap.size w0 Y) => run_convert_row (P := Try.prog) h ((hv.below hb0 hB).below k (by omega)) Try.underlying28 Try.underlying5 Try.underlying9)
  have HS2 := Lib.hid (fun (Y : World) (k : Below w0.heap.size w0 Y) => run_convert_row (P := Try.prog) l ((hu.below hb0 hB).below k (by omega)) Try.underlying28 Try.underlying5 Try.underlying9)
  obtain ⟨ad0, cp0, rfl, _, _⟩ := id hv
  obtain ⟨ad2, cp2, rfl, _, _⟩ := id hu
  go_enter Try.func18, Try.ntmps18
  go_wp2_with fail
  clear hw0
  refine wp_region_held_drew (S := fun Y => TagAt w0 w.heap.size c s n Y ∧ (convert 28 9 (.slice ad0 h.length cp0)).run Try.prog Y = .ok (.string (strOfNums h)) Y) (by kernel_rfl) ⟨TagAt.of hX (Below.refl _ w0).drew, HS.out _ (Below.refl _ w0).drew⟩ (fun hHeld => ?_)
  refine wpAnyH_take (i := 0) (v := ?_) rfl (by kernel_rfl) (by kernel_rfl) (by kernel_rfl) (fun _ _ _ h => h) (Or.inl ⟨by rfl, ?_⟩) (by assumption) ?_
  rotate_left
  · (intro Y hSw; (try dsimp only at hSw); obtain ⟨⟨hS1, hS2, hS3, hS4⟩, hS5⟩ := hSw; go_simp; try with_reducible rfl)
  try simp only [Act.put, List.getElem_toArray, List.getElem_cons_zero, List.getElem_cons_succ, List.setIfInBounds_toArray, List.set_cons_zero, List.set_cons_succ]
  refine wpAnyH_take (i := 1) (v := ?_) rfl (by kernel_rfl) (by kernel_rfl) (by kernel_rfl) (fun _ _ _ h => h) (Or.inl ⟨by rfl, ?_⟩) (by assumption) ?_
  rotate_left
  · (intro Y hSw; (try dsimp only at hSw); obtain ⟨⟨hS1, hS2, hS3, hS4⟩, hS5⟩ := hSw; go_simp; try with_reducible rfl)
  try simp only [Act.put, List.getElem_toArray, List.getElem_cons_zero, List.getElem_cons_succ, List.setIfInBounds_toArray, List.set_cons_zero, List.set_cons_succ]
  refine wpAnyH_take (i := 2) (v := ?_) rfl (by kernel_rfl) (by kernel_rfl) (by kernel_rfl) (fun _ _ _ h => h) (Or.inl ⟨by rfl, ?_⟩) (by assumption) ?_
  rotate_left
  · (intro Y hSw; (try dsimp only at hSw); obtain ⟨⟨hS1, hS2, hS3, hS4⟩, hS5⟩ := hSw; go_simp; try with_reducible rfl)
  try simp only [Act.put, List.getElem_toArray, List.getElem_cons_zero, List.getElem_cons_succ, List.setIfInBounds_toArray, List.set_cons_zero, List.set_cons_succ]
  refine wpAnyH_take (i := 3) (v := ?_) rfl (by kernel_rfl) (by kernel_rfl) (by kernel_rfl) (fun _ _ _ h => h) (Or.inl ⟨by rfl, ?_⟩) (by assumption) ?_
  rotate_left
  · (intro Y hSw; (try dsimp only at hSw); obtain ⟨⟨hS1, hS2, hS3, hS4⟩, hS5⟩ := hSw; go_simp; try with_reducible rfl)
  try simp only [Act.put, List.getElem_toArray, List.getElem_cons_zero, List.getElem_cons_succ, List.setIfInBounds_toArray, List.set_cons_zero, List.set_cons_succ]
  refine wpAnyH_take (i := 4) (v := ?_) rfl (by kernel_rfl) (by kernel_rfl) (by kernel_rfl) (fun _ _ _ h => h) (Or.inl ⟨by rfl, ?_⟩) (by assumption) ?_
  rotate_left
  · (intro Y hSw; (try dsimp only at hSw); obtain ⟨⟨hS1, hS2, hS3, hS4⟩, hS5⟩ := hSw; go_simp; try with_reducible rfl)
  try simp only [Act.put, List.getElem_toArray, List.getElem_cons_zero, List.getElem_cons_succ, List.setIfInBounds_toArray, List.set_cons_zero, List.set_cons_succ]
  refine wpAnyH_ready (rs := [5]) (by kernel_rfl) (by simp) ?_
  refine AllReadyH.cons rfl (fun K hK => ?_) AllReadyH.nil
  go_simp
  refine (rHead_ok key at_ _ _ _ hk hk' ha ha' hr hn hn' _).mono ?_; rintro e w1 ⟨v1, rfl, ho1, h1⟩
  have k1 := (Below.refl w0.heap.size w0).drew.trans (h1.mono (Nat.le_refl _))
  have hrow1 : RowAt w1.heap.size w1 v1 (sealB (foldI [key, at_]) (wordI c s n)).length (intVals .u8 (sealB (foldI [key, at_]) (wordI c s n))) := by
    rw [sealB_len]; exact RowAt.of_owns ho1 (Nat.le_refl _)
  have hcv := run_convert_row (P := Try.prog) _ hrow1 Try.underlying28 Try.underlying5 Try.underlying9
  clear hrow1
  go_wp2_with fail
  refine hK.out _ _ (⟨TagAt.of hX k1, HS.out _ k1⟩) (fun hHeld => ?_)
  clear hK K
  try simp only [Act.put, List.getElem_toArray, List.getElem_cons_zero, List.getElem_cons_succ, List.setIfInBounds_toArray, List.set_cons_zero, List.set_cons_succ]
  refine wpAnyH_ready (rs := [6]) (by kernel_rfl) (by simp) ?_
  refine AllReadyH.cons rfl (fun K hK => ?_) AllReadyH.nil
  go_simp
  refine hK.out _ _ (⟨TagAt.of hX k1, HS.out _ k1⟩) (fun hHeld => ?_)
  clear hK K
  try simp only [Act.put, List.getElem_toArray, List.getElem_cons_zero, List.getElem_cons_succ, List.setIfInBounds_toArray, List.set_cons_zero, List.set_cons_succ]
  clear hcv
  refine wpAnyH_take (i := 7) (v := ?_) rfl (by kernel_rfl) (by kernel_rfl) (by kernel_rfl) (fun _ _ _ h => h) (Or.inl ⟨by rfl, ?_⟩) (by assumption) ?_
  rotate_left
  · (intro Y hSw; (try dsimp only at hSw); obtain ⟨⟨hS1, hS2, hS3, hS4⟩, hS5⟩ := hSw; go_simp; try with_reducible rfl)
  try simp only [Act.put, List.getElem_toArray, List.getElem_cons_zero, List.getElem_cons_succ, List.setIfInBounds_toArray, List.set_cons_zero, List.set_cons_succ]
  refine wpAnyH_done (by kernel_rfl) ?_ _
  have z1 := k1.size
  have hX1 := hX.below k1 hX.lt
  cases q
  · have hlk : lookI h l (sealB (foldI [key, at_]) (wordI c s n)) (sealB (foldI [at_, key]) (wordI c s n)) = 1 := by
      have := of_decide_eq_false HQ.out
      simp [lookI, this]
    have HL := Lib.hid hlk
    clear hlk
    go_wp2_with fail
    go_ret
    exact ⟨by rw [HL.out]; rfl, hb0.trans (k1.mono z0)⟩
  · have hlk : lookI h l (sealB (foldI [key, at_]) (wordI c s n)) (sealB (foldI [at_, key]) (wordI c s n)) = if q2 = true then 0 else 2 := by
      have h9 := of_decide_eq_true HQ.out
      have h10 := HQ2.out
      rw [← h10]
      simp only [lookI, h9, decide_eq_true_eq]
      by_cases e : l = sealB (foldI [at_, key]) (wordI c s n)
      · simp [e]
      · simp [e]
    have HL := Lib.hid hlk
    clear hlk hse
    go_wp2_with fail
    refine wp_region_held_drew (S := fun Y => TagAt w1 w.heap.size c s n Y ∧ (convert 28 9 (.slice ad2 l.length cp2)).run Try.prog Y = .ok (.string (strOfNums l)) Y) (by kernel_rfl) ⟨TagAt.of hX1 (Below.refl _ w1).drew, HS2.out _ (k1.trans ((Below.refl _ w1).drew.mono z1))⟩ (fun hHeld => ?_)
    refine wpAnyH_take (i := 0) (v := ?_) rfl (by kernel_rfl) (by kernel_rfl) (by kernel_rfl) (fun _ _ _ h => h) (Or.inl ⟨by rfl, ?_⟩) (by assumption) ?_
    rotate_left
    · (intro Y hSw; (try dsimp only at hSw); obtain ⟨⟨hS1, hS2, hS3, hS4⟩, hS5⟩ := hSw; go_simp; try with_reducible rfl)
    try simp only [Act.put, List.getElem_toArray, List.getElem_cons_zero, List.getElem_cons_succ, List.setIfInBounds_toArray, List.set_cons_zero, List.set_cons_succ]
    refine wpAnyH_take (i := 1) (v := ?_) rfl (by kernel_rfl) (by kernel_rfl) (by kernel_rfl) (fun _ _ _ h => h) (Or.inl ⟨by rfl, ?_⟩) (by assumption) ?_
    rotate_left
    · (intro Y hSw; (try dsimp only at hSw); obtain ⟨⟨hS1, hS2, hS3, hS4⟩, hS5⟩ := hSw; go_simp; try with_reducible rfl)
    try simp only [Act.put, List.getElem_toArray, List.getElem_cons_zero, List.getElem_cons_succ, List.setIfInBounds_toArray, List.set_cons_zero, List.set_cons_succ]
    refine wpAnyH_take (i := 2) (v := ?_) rfl (by kernel_rfl) (by kernel_rfl) (by kernel_rfl) (fun _ _ _ h => h) (Or.inl ⟨by rfl, ?_⟩) (by assumption) ?_
    rotate_left
    · (intro Y hSw; (try dsimp only at hSw); obtain ⟨⟨hS1, hS2, hS3, hS4⟩, hS5⟩ := hSw; go_simp; try with_reducible rfl)
    try simp only [Act.put, List.getElem_toArray, List.getElem_cons_zero, List.getElem_cons_succ, List.setIfInBounds_toArray, List.set_cons_zero, List.set_cons_succ]
    refine wpAnyH_take (i := 3) (v := ?_) rfl (by kernel_rfl) (by kernel_rfl) (by kernel_rfl) (fun _ _ _ h => h) (Or.inl ⟨by rfl, ?_⟩) (by assumption) ?_
    rotate_left
    · (intro Y hSw; (try dsimp only at hSw); obtain ⟨⟨hS1, hS2, hS3, hS4⟩, hS5⟩ := hSw; go_simp; try with_reducible rfl)
    try simp only [Act.put, List.getElem_toArray, List.getElem_cons_zero, List.getElem_cons_succ, List.setIfInBounds_toArray, List.set_cons_zero, List.set_cons_succ]
    refine wpAnyH_take (i := 4) (v := ?_) rfl (by kernel_rfl) (by kernel_rfl) (by kernel_rfl) (fun _ _ _ h => h) (Or.inl ⟨by rfl, ?_⟩) (by assumption) ?_
    rotate_left
    · (intro Y hSw; (try dsimp only at hSw); obtain ⟨⟨hS1, hS2, hS3, hS4⟩, hS5⟩ := hSw; go_simp; try with_reducible rfl)
    try simp only [Act.put, List.getElem_toArray, List.getElem_cons_zero, List.getElem_cons_succ, List.setIfInBounds_toArray, List.set_cons_zero, List.set_cons_succ]
    refine wpAnyH_ready (rs := [5]) (by kernel_rfl) (by simp) ?_
    refine AllReadyH.cons rfl (fun K hK => ?_) AllReadyH.nil
    go_simp
    refine (rTail_ok key at_ _ _ _ hk hk' ha ha' hr hn hn' _).mono ?_; rintro e w2 ⟨v2, rfl, ho2, h2⟩
    have k2 := (Below.refl w1.heap.size w1).drew.trans (h2.mono (Nat.le_refl _))
    have k3 := k1.trans (k2.mono z1)
    have hrow1 : RowAt w2.heap.size w2 v2 (sealB (foldI [at_, key]) (wordI c s n)).length (intVals .u8 (sealB (foldI [at_, key]) (wordI c s n))) := by
      rw [sealB_len]; exact RowAt.of_owns ho2 (Nat.le_refl _)
    have hcv := run_convert_row (P := Try.prog) _ hrow1 Try.underlying28 Try.underlying5 Try.underlying9
    clear hrow1
    go_wp2_with fail
    refine hK.out _ _ (⟨TagAt.of hX1 k2, HS2.out _ k3⟩) (fun hHeld => ?_)
    clear hK K
    try simp only [Act.put, List.getElem_toArray, List.getElem_cons_zero, List.getElem_cons_succ, List.setIfInBounds_toArray, List.set_cons_zero, List.set_cons_succ]
    refine wpAnyH_ready (rs := [6]) (by kernel_rfl) (by simp) ?_
    refine AllReadyH.cons rfl (fun K hK => ?_) AllReadyH.nil
    go_simp
    refine hK.out _ _ (⟨TagAt.of hX1 k2, HS2.out _ k3⟩) (fun hHeld => ?_)
    clear hK K
    try simp only [Act.put, List.getElem_toArray, List.getElem_cons_zero, List.getElem_cons_succ, List.setIfInBounds_toArray, List.set_cons_zero, List.set_cons_succ]
    clear hcv
    refine wpAnyH_take (i := 7) (v := ?_) rfl (by kernel_rfl) (by kernel_rfl) (by kernel_rfl) (fun _ _ _ h => h) (Or.inl ⟨by rfl, ?_⟩) (by assumption) ?_
    rotate_left
    · (intro Y hSw; (try dsimp only at hSw); obtain ⟨⟨hS1, hS2, hS3, hS4⟩, hS5⟩ := hSw; go_simp; try with_reducible rfl)
    try simp only [Act.put, List.getElem_toArray, List.getElem_cons_zero, List.getElem_cons_succ, List.setIfInBounds_toArray, List.set_cons_zero, List.set_cons_succ]
    refine wpAnyH_done (by kernel_rfl) ?_ _
    cases q2
    · go_wp2_with fail
      go_ret
      exact ⟨by rw [HL.out]; rfl, hb0.trans (k3.mono z0)⟩
    · go_wp2_with fail
      go_ret
      exact ⟨by rw [HL.out]; rfl, hb0.trans (k3.mono z0)⟩
end Go.Proofs.Ytackenlfnecanaa
