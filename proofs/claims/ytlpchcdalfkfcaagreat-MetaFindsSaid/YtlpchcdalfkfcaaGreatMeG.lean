/-
  Packages pinfoldref15, pinfoldref03: the document's spots. No condition.
-/
import Derived.Test.YtlpchcdalfkfcaaGreatBMeE
namespace Go.Proofs.YtlpchcdalfkfcaaGreat
open Go.RowKit
attribute [local go_sem] Oper.semAt_some
set_option maxHeartbeats 4000000
set_option maxRecDepth 8000

theorem rPay_calls (c : Int) (h : inC c = true) (w : World) : Calls Tryz.prog 72 #[.int .i64 c] w fun e w' => e = .returned (.int .i64 (payI c)) ∧ w = w' := by
  obtain ⟨h0, h1⟩ := inC_iff.1 h
  rcases cls8 h0 h1 with rfl | rfl | rfl | rfl | rfl | rfl | rfl | rfl
  · clear h h0 h1
    go_enter Tryz.func72, Tryz.ntmps72
    go_wp2_with fail
    go_ret
    exact ⟨rfl, rfl⟩
  · clear h h0 h1
    go_enter Tryz.func72, Tryz.ntmps72
    go_wp2_with fail
    go_ret
    exact ⟨rfl, rfl⟩
  · clear h h0 h1
    go_enter Tryz.func72, Tryz.ntmps72
    go_wp2_with fail
    go_ret
    exact ⟨rfl, rfl⟩
  · clear h h0 h1
    go_enter Tryz.func72, Tryz.ntmps72
    go_wp2_with fail
    go_ret
    exact ⟨rfl, rfl⟩
  · clear h h0 h1
    go_enter Tryz.func72, Tryz.ntmps72
    go_wp2_with fail
    go_ret
    exact ⟨rfl, rfl⟩
  · clear h h0 h1
    go_enter Tryz.func72, Tryz.ntmps72
    go_wp2_with fail
    go_ret
    exact ⟨rfl, rfl⟩
  · clear h h0 h1
    go_enter Tryz.func72, Tryz.ntmps72
    go_wp2_with fail
    go_ret
    exact ⟨rfl, rfl⟩
  · clear h h0 h1
    go_enter Tryz.func72, Tryz.ntmps72
    go_wp2_with fail
    go_ret
    exact ⟨rfl, rfl⟩
theorem rSlt_calls (c : Int) (h : inC c = true) (w : World) : Calls Tryz.prog 34 #[.int .i64 c] w fun e w' => e = .returned (.int .i64 (sltI c)) ∧ w = w' := by
  have hb : 0 ≤ payI c ∧ payI c ≤ 256 := by
    obtain ⟨h0, h1⟩ := inC_iff.1 h
    rcases cls8 h0 h1 with rfl | rfl | rfl | rfl | rfl | rfl | rfl | rfl <;> decide
  obtain ⟨b0, b1⟩ := hb
  go_enter Tryz.func34, Tryz.ntmps34
  go_wp2_with fail
  refine (rPay_calls c h _).mono ?_; rintro e _ ⟨rfl, rfl⟩
  go_wp2_with fail
  go_ret
  refine ⟨?_, rfl⟩
  unfold sltI
  go_num
theorem cnt_of (c n : Int) (h : inC c = true) (h1 : n * sltI c ≤ 4096) (h2 : 4096 < (n + 1) * sltI c) : n = cntIM c := by
  obtain ⟨h3, h4⟩ := inC_iff.1 h
  rcases cls8 h3 h4 with rfl | rfl | rfl | rfl | rfl | rfl | rfl | rfl <;> simp only [slt_v, cnt_v] at * <;> omega
theorem rCnt_calls (c : Int) (h : inC c = true) (w : World) : Calls Tryz.prog 32 #[.int .i64 c] w fun e w' => e = .returned (.int .i64 (cntIM c)) ∧ w = w' := by
  have hb : 48 ≤ sltI c ∧ sltI c ≤ 288 := by
    obtain ⟨h0, h1⟩ := inC_iff.1 h
    rcases cls8 h0 h1 with rfl | rfl | rfl | rfl | rfl | rfl | rfl | rfl <;> decide
  obtain ⟨b0, b1⟩ := hb
  have HC := Lib.hid (fun n h1 h2 => cnt_of c n h h1 h2)
  have HS := Lib.hid (fun W => rSlt_calls c h W)
  clear h
  generalize sltI c = q at *
  go_enter Tryz.func32, Tryz.ntmps32
  go_wp2_with fail
  go_loopw [3] (fun i wr => ∃ n : Nat, i = .int .i64 n ∧ (n : Int) * q ≤ 4096 ∧ n ≤ 100 ∧ w = wr) (fun i _ => 200 - (intOf i).toNat)
  case atStart => exact ⟨0, rfl, by simp, by omega, rfl⟩
  case round =>
    obtain ⟨n, rfl, hn, hn2, rfl⟩ := hrel
    have hm : ((n : Int) + 1) * q = n * q + q := by rw [Int.add_mul, Int.one_mul]
    have hm0 : 0 ≤ (n : Int) * q := Int.mul_nonneg (by omega) (by omega)
    have hm3 : 48 * (n : Int) ≤ n * q := by rw [Int.mul_comm 48]; exact Int.mul_le_mul_of_nonneg_left b0 (by omega)
    go_wp2_with fail
    refine (HS.out _).mono ?_; rintro e _ ⟨rfl, rfl⟩
    by_cases hle : ((n : Int) + 1) * q ≤ 4096
    · go_wp2_with fail
      exact ⟨⟨n + 1, by go_num, by push_cast; omega, by omega, by first | rfl | trivial⟩, by simp [intOf]; omega⟩
    · have HN := Lib.hid (HC.out n hn (by omega))
      go_wp2_with fail
      go_ret
      exact ⟨by rw [← HN.out]; rfl, rfl⟩
theorem sl_eq {s c : Int} : inS s c = (slotI s && inI 8 c) := by
  rw [Bool.eq_iff_iff, inS_iff]
  unfold slotI inI
  simp
theorem rAsks_okM (s c i : Int) (w : World) : Calls Tryz.prog 8 #[.agg #[.int .i64 s, .int .i64 c, .int .i64 i]] w fun e w' => e = .returned (.int .i64 (spE s c i)) ∧ Below w.heap.size w w' := by
  obtain ⟨w0, hw0⟩ : ∃ w0, w.alloc (.cells #[.int .i64 s, .int .i64 c, .int .i64 i] 23) = w0 := ⟨_, rfl⟩
  have hX : Blk w0 w.heap.size #[.int .i64 s, .int .i64 c, .int .i64 i] 23 := by rw [← hw0]; exact Blk.new w _ _
  have k : Below w.heap.size w w0 := by rw [← hw0]; exact (Below.refl _ w).alloc (Nat.le_refl _) _
  have d0 := hX.cell 0 (v := .int .i64 s) rfl
  have d1 := hX.cell 1 (v := .int .i64 c) rfl
  have d2 := hX.cell 2 (v := .int .i64 i) rfl
  have HX := Lib.hid hX
  clear hX
  cases hs : slotI s
  · have HE := Lib.hid (show spE s c i = 2 by unfold spE; rw [sl_eq, hs]; rfl)
    go_enter Tryz.func8, Tryz.ntmps8
    go_wp2_with fail
    clear hw0
    refine (Slot_calls s _).mono ?_; rintro e _ ⟨rfl, rfl⟩
    rw [hs]
    go_wp2_with fail
    go_ret
    exact ⟨by rw [HE.out]; rfl, k⟩
  · cases hc : inI 8 c
    · have HE := Lib.hid (show spE s c i = 2 by unfold spE; rw [sl_eq, hs, hc]; rfl)
      go_enter Tryz.func8, Tryz.ntmps8
      go_wp2_with fail
      clear hw0
      refine (Slot_calls s _).mono ?_; rintro e _ ⟨rfl, rfl⟩
      rw [hs]
      go_wp2_with fail
      refine (Class_calls c _).mono ?_; rintro e _ ⟨rfl, rfl⟩
      rw [hc]
      go_wp2_with fail
      go_ret
      exact ⟨by rw [HE.out]; rfl, k⟩
    · have HE := Lib.hid (show spE s c i = if decide (0 ≤ i ∧ i < cntIM c) = false then 4 else 0 by unfold spE; rw [sl_eq, hs, hc]; rfl)
      have hic : inC c = true := by unfold inI at hc; exact inC_iff.2 (of_decide_eq_true hc)
      go_enter Tryz.func8, Tryz.ntmps8
      go_wp2_with fail
      clear hw0
      refine (Slot_calls s _).mono ?_; rintro e _ ⟨rfl, rfl⟩
      rw [hs]
      go_wp2_with fail
      refine (Class_calls c _).mono ?_; rintro e _ ⟨rfl, rfl⟩
      rw [hc]
      go_wp2_with fail
      refine wp_onlyN ?_
      refine wp_region_held_drew (S := SpS w.heap.size s c i) (by kernel_rfl) (SpS.of HX.out) (fun hHeld => ?_)
      clear d0 d1 d2
      by_cases hi : i < 0
      · have HH := Lib.hid (show ¬ (0 ≤ i ∧ i < cntIM c) by omega)
        have hi1 : decide (i < 0) = true := decide_eq_true hi
        refine wpAnyH_take (i := 0) (v := ?_) rfl (by kernel_rfl) (by kernel_rfl) (by kernel_rfl) (fun _ _ _ h => h) (Or.inl ⟨by rfl, ?_⟩) (by assumption) ?_
        rotate_left
        · (intro Y hSw; (try dsimp only at hSw); obtain ⟨hS0, hS1, hS2⟩ := hSw; go_simp; try with_reducible rfl)
        try simp only [Act.put, List.getElem_toArray, List.getElem_cons_zero, List.getElem_cons_succ, List.setIfInBounds_toArray, List.set_cons_zero, List.set_cons_succ]
        refine wpAnyH_take (i := 1) (v := ?_) rfl (by kernel_rfl) (by kernel_rfl) (by kernel_rfl) (fun _ _ _ h => h) (Or.inl ⟨by rfl, ?_⟩) (by assumption) ?_
        rotate_left
        · (intro Y hSw; (try dsimp only at hSw); obtain ⟨hS0, hS1, hS2⟩ := hSw; go_simp; try with_reducible rfl)
        try simp only [Act.put, List.getElem_toArray, List.getElem_cons_zero, List.getElem_cons_succ, List.setIfInBounds_toArray, List.set_cons_zero, List.set_cons_succ]
        refine wpAnyH_take (i := 2) (v := ?_) rfl (by kernel_rfl) (by kernel_rfl) (by kernel_rfl) (fun _ _ _ h => h) (Or.inl ⟨by rfl, ?_⟩) (by assumption) ?_
        rotate_left
        · (intro Y hSw; (try dsimp only at hSw); obtain ⟨hS0, hS1, hS2⟩ := hSw; go_simp; try with_reducible rfl)
        try simp only [Act.put, List.getElem_toArray, List.getElem_cons_zero, List.getElem_cons_succ, List.setIfInBounds_toArray, List.set_cons_zero, List.set_cons_succ]
        refine wpAnyH_take (i := 3) (v := ?_) rfl (by kernel_rfl) (by kernel_rfl) (by kernel_rfl) (fun _ _ _ h => h) (Or.inl ⟨by rfl, ?_⟩) (by assumption) ?_
        rotate_left
        · (intro Y hSw; (try dsimp only at hSw); obtain ⟨hS0, hS1, hS2⟩ := hSw; go_simp; try with_reducible rfl)
        try simp only [Act.put, List.getElem_toArray, List.getElem_cons_zero, List.getElem_cons_succ, List.setIfInBounds_toArray, List.set_cons_zero, List.set_cons_succ]
        refine wpAnyH_take (i := 4) (v := undef) rfl (by kernel_rfl) (by kernel_rfl) (by kernel_rfl) (fun _ _ _ h => h) (Or.inr ⟨by rfl, rfl⟩) (by assumption) ?_
        try simp only [Act.put, List.getElem_toArray, List.getElem_cons_zero, List.getElem_cons_succ, List.setIfInBounds_toArray, List.set_cons_zero, List.set_cons_succ]
        refine wpAnyH_take (i := 5) (v := undef) rfl (by kernel_rfl) (by kernel_rfl) (by kernel_rfl) (fun _ _ _ h => h) (Or.inr ⟨by rfl, rfl⟩) (by assumption) ?_
        try simp only [Act.put, List.getElem_toArray, List.getElem_cons_zero, List.getElem_cons_succ, List.setIfInBounds_toArray, List.set_cons_zero, List.set_cons_succ]
        refine wpAnyH_take (i := 6) (v := undef) rfl (by kernel_rfl) (by kernel_rfl) (by kernel_rfl) (fun _ _ _ h => h) (Or.inr ⟨by rfl, rfl⟩) (by assumption) ?_
        try simp only [Act.put, List.getElem_toArray, List.getElem_cons_zero, List.getElem_cons_succ, List.setIfInBounds_toArray, List.set_cons_zero, List.set_cons_succ]
        refine wpAnyH_take (i := 7) (v := undef) rfl (by kernel_rfl) (by kernel_rfl) (by kernel_rfl) (fun _ _ _ h => h) (Or.inr ⟨by rfl, rfl⟩) (by assumption) ?_
        try simp only [Act.put, List.getElem_toArray, List.getElem_cons_zero, List.getElem_cons_succ, List.setIfInBounds_toArray, List.set_cons_zero, List.set_cons_succ]
        refine wpAnyH_take (i := 8) (v := undef) rfl (by kernel_rfl) (by kernel_rfl) (by kernel_rfl) (fun _ _ _ h => h) (Or.inr ⟨by rfl, rfl⟩) (by assumption) ?_
        try simp only [Act.put, List.getElem_toArray, List.getElem_cons_zero, List.getElem_cons_succ, List.setIfInBounds_toArray, List.set_cons_zero, List.set_cons_succ]
        refine wpAnyH_take (i := 9) (v := undef) rfl (by kernel_rfl) (by kernel_rfl) (by kernel_rfl) (fun _ _ _ h => h) (Or.inr ⟨by rfl, rfl⟩) (by assumption) ?_
        try simp only [Act.put, List.getElem_toArray, List.getElem_cons_zero, List.getElem_cons_succ, List.setIfInBounds_toArray, List.set_cons_zero, List.set_cons_succ]
        refine wpAnyH_take (i := 10) (v := ?_) rfl (by kernel_rfl) (by kernel_rfl) (by kernel_rfl) (fun _ _ _ h => h) (Or.inl ⟨by rfl, ?_⟩) (by assumption) ?_
        rotate_left
        · (intro Y hSw; (try dsimp only at hSw); obtain ⟨hS0, hS1, hS2⟩ := hSw; go_simp; try with_reducible rfl)
        try simp only [Act.put, List.getElem_toArray, List.getElem_cons_zero, List.getElem_cons_succ, List.setIfInBounds_toArray, List.set_cons_zero, List.set_cons_succ]
        refine wpAnyH_done (by kernel_rfl) ?_ _
        rw [onlyN_normal]
        go_wp2_with fail
        go_ret
        exact ⟨by rw [HE.out, decide_eq_false HH.out]; rfl, k.drew⟩
      · have hi1 : decide (i < 0) = false := decide_eq_false hi
        have hi2 : 0 ≤ i := by omega
        refine wpAnyH_take (i := 0) (v := ?_) rfl (by kernel_rfl) (by kernel_rfl) (by kernel_rfl) (fun _ _ _ h => h) (Or.inl ⟨by rfl, ?_⟩) (by assumption) ?_
        rotate_left
        · (intro Y hSw; (try dsimp only at hSw); obtain ⟨hS0, hS1, hS2⟩ := hSw; go_simp; try with_reducible rfl)
        try simp only [Act.put, List.getElem_toArray, List.getElem_cons_zero, List.getElem_cons_succ, List.setIfInBounds_toArray, List.set_cons_zero, List.set_cons_succ]
        refine wpAnyH_take (i := 1) (v := ?_) rfl (by kernel_rfl) (by kernel_rfl) (by kernel_rfl) (fun _ _ _ h => h) (Or.inl ⟨by rfl, ?_⟩) (by assumption) ?_
        rotate_left
        · (intro Y hSw; (try dsimp only at hSw); obtain ⟨hS0, hS1, hS2⟩ := hSw; go_simp; try with_reducible rfl)
        try simp only [Act.put, List.getElem_toArray, List.getElem_cons_zero, List.getElem_cons_succ, List.setIfInBounds_toArray, List.set_cons_zero, List.set_cons_succ]
        refine wpAnyH_take (i := 2) (v := ?_) rfl (by kernel_rfl) (by kernel_rfl) (by kernel_rfl) (fun _ _ _ h => h) (Or.inl ⟨by rfl, ?_⟩) (by assumption) ?_
        rotate_left
        · (intro Y hSw; (try dsimp only at hSw); obtain ⟨hS0, hS1, hS2⟩ := hSw; go_simp; try with_reducible rfl)
        try simp only [Act.put, List.getElem_toArray, List.getElem_cons_zero, List.getElem_cons_succ, List.setIfInBounds_toArray, List.set_cons_zero, List.set_cons_succ]
        refine wpAnyH_take (i := 3) (v := ?_) rfl (by kernel_rfl) (by kernel_rfl) (by kernel_rfl) (fun _ _ _ h => h) (Or.inl ⟨by rfl, ?_⟩) (by assumption) ?_
        rotate_left
        · (intro Y hSw; (try dsimp only at hSw); obtain ⟨hS0, hS1, hS2⟩ := hSw; go_simp; try with_reducible rfl)
        try simp only [Act.put, List.getElem_toArray, List.getElem_cons_zero, List.getElem_cons_succ, List.setIfInBounds_toArray, List.set_cons_zero, List.set_cons_succ]
        refine wpAnyH_take (i := 4) (v := ?_) rfl (by kernel_rfl) (by kernel_rfl) (by kernel_rfl) (fun _ _ _ h => h) (Or.inl ⟨by rfl, ?_⟩) (by assumption) ?_
        rotate_left
        · (intro Y hSw; (try dsimp only at hSw); obtain ⟨hS0, hS1, hS2⟩ := hSw; go_simp; try with_reducible rfl)
        try simp only [Act.put, List.getElem_toArray, List.getElem_cons_zero, List.getElem_cons_succ, List.setIfInBounds_toArray, List.set_cons_zero, List.set_cons_succ]
        refine wpAnyH_take (i := 5) (v := ?_) rfl (by kernel_rfl) (by kernel_rfl) (by kernel_rfl) (fun _ _ _ h => h) (Or.inl ⟨by rfl, ?_⟩) (by assumption) ?_
        rotate_left
        · (intro Y hSw; (try dsimp only at hSw); obtain ⟨hS0, hS1, hS2⟩ := hSw; go_simp; try with_reducible rfl)
        try simp only [Act.put, List.getElem_toArray, List.getElem_cons_zero, List.getElem_cons_succ, List.setIfInBounds_toArray, List.set_cons_zero, List.set_cons_succ]
        refine wpAnyH_take (i := 6) (v := ?_) rfl (by kernel_rfl) (by kernel_rfl) (by kernel_rfl) (fun _ _ _ h => h) (Or.inl ⟨by rfl, ?_⟩) (by assumption) ?_
        rotate_left
        · (intro Y hSw; (try dsimp only at hSw); obtain ⟨hS0, hS1, hS2⟩ := hSw; go_simp; try with_reducible rfl)
        try simp only [Act.put, List.getElem_toArray, List.getElem_cons_zero, List.getElem_cons_succ, List.setIfInBounds_toArray, List.set_cons_zero, List.set_cons_succ]
        refine wpAnyH_take (i := 7) (v := ?_) rfl (by kernel_rfl) (by kernel_rfl) (by kernel_rfl) (fun _ _ _ h => h) (Or.inl ⟨by rfl, ?_⟩) (by assumption) ?_
        rotate_left
        · (intro Y hSw; (try dsimp only at hSw); obtain ⟨hS0, hS1, hS2⟩ := hSw; go_simp; try with_reducible rfl)
        try simp only [Act.put, List.getElem_toArray, List.getElem_cons_zero, List.getElem_cons_succ, List.setIfInBounds_toArray, List.set_cons_zero, List.set_cons_succ]
        refine wpAnyH_ready (rs := [8]) (by kernel_rfl) (by simp) ?_
        refine AllReadyH.cons rfl (fun K hK => ?_) AllReadyH.nil
        go_simp
        refine (rCnt_calls c hic _).mono ?_; rintro e _ ⟨rfl, rfl⟩
        go_wp2_with fail
        refine hK.out _ _ (hHeld) (fun hHeld => ?_)
        clear hK K
        try simp only [Act.put, List.getElem_toArray, List.getElem_cons_zero, List.getElem_cons_succ, List.setIfInBounds_toArray, List.set_cons_zero, List.set_cons_succ]
        refine wpAnyH_take (i := 9) (v := ?_) rfl (by kernel_rfl) (by kernel_rfl) (by kernel_rfl) (fun _ _ _ h => h) (Or.inl ⟨by rfl, ?_⟩) (by assumption) ?_
        rotate_left
        · (intro Y hSw; (try dsimp only at hSw); obtain ⟨hS0, hS1, hS2⟩ := hSw; go_simp; try with_reducible rfl)
        try simp only [Act.put, List.getElem_toArray, List.getElem_cons_zero, List.getElem_cons_succ, List.setIfInBounds_toArray, List.set_cons_zero, List.set_cons_succ]
        refine wpAnyH_take (i := 10) (v := ?_) rfl (by kernel_rfl) (by kernel_rfl) (by kernel_rfl) (fun _ _ _ h => h) (Or.inl ⟨by rfl, ?_⟩) (by assumption) ?_
        rotate_left
        · (intro Y hSw; (try dsimp only at hSw); obtain ⟨hS0, hS1, hS2⟩ := hSw; go_simp; try with_reducible rfl)
        try simp only [Act.put, List.getElem_toArray, List.getElem_cons_zero, List.getElem_cons_succ, List.setIfInBounds_toArray, List.set_cons_zero, List.set_cons_succ]
        refine wpAnyH_done (by kernel_rfl) ?_ _
        rw [onlyN_normal]
        by_cases h3 : i < cntIM c
        · have HH := Lib.hid (show 0 ≤ i ∧ i < cntIM c from ⟨hi2, h3⟩)
          generalize cntIM c = q at h3 ⊢
          go_wp2_with fail
          go_ret
          exact ⟨by rw [HE.out, decide_eq_true HH.out]; rfl, k.drew⟩
        · have HH := Lib.hid (show ¬ (0 ≤ i ∧ i < cntIM c) from fun e => h3 e.2)
          generalize cntIM c = q at h3 ⊢
          have h4 : q ≤ i := by omega
          go_wp2_with fail
          go_ret
          exact ⟨by rw [HE.out, decide_eq_false HH.out]; rfl, k.drew⟩
end Go.Proofs.YtlpchcdalfkfcaaGreat
