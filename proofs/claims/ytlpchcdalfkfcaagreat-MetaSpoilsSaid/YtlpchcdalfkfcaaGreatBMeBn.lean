/-
  Package pinfoldlaw15: MetaSpoils. No condition.
-/
import Derived.Test.YtlpchcdalfkfcaaGreatBMeAa
import Derived.Test.YtlpchcdalfkfcaaGreatBMeQ
namespace Go.Proofs.YtlpchcdalfkfcaaGreat
open Go.RowKit Go.ChangeShapes
attribute [local go_sem] Oper.semAt_some
set_option maxHeartbeats 8000000
set_option maxRecDepth 8000

theorem recV_no {L : List Int} (h : recOk L = false) : recV L = .agg #[.int .i64 0, .int .i64 0, .int .u32 0] ∧ recN L = 251 := by
  unfold recV recN
  rw [if_neg (by rw [h]; decide), if_neg (by rw [h]; decide)]
  exact ⟨rfl, rfl⟩
theorem recV_yes {b0 b2 b3 b4 b5 b6 b7 : Int} (h0 : 0 ≤ b0 ∧ b0 ≤ 4) : recV [b0, 0, b2, b3, b4, b5, b6, b7] = .agg #[.int .i64 b0, .int .i64 (b2 + 256 * b3), .int .u32 (b4 + 256 * (b5 + 256 * (b6 + 256 * b7)))] ∧ recN [b0, 0, b2, b3, b4, b5, b6, b7] = 0 := by
  have h : recOk [b0, 0, b2, b3, b4, b5, b6, b7] = true := by
    unfold recOk
    exact Bool.and_eq_true_iff.2 ⟨decide_eq_true rfl, isSt_iff.2 h0⟩
  unfold recV recN
  rw [if_pos h, if_pos h]
  exact ⟨rfl, rfl⟩
structure SpoS (b4 : Nat) (s c i : Int) (Y : World) : Prop where
  h0 : Y.cell? ⟨b4, 0, none⟩ = some (.int .i64 s)
  h1 : Y.cell? ⟨b4, 1, none⟩ = some (.int .i64 c)
  h2 : Y.cell? ⟨b4, 2, none⟩ = some (.int .i64 i)
theorem SpoS.of {b4 : Nat} {s c i : Int} {Y : World} {ty : TypeId} (h : Blk Y b4 #[.int .i64 s, .int .i64 c, .int .i64 i] ty) : SpoS b4 s c i Y := ⟨h.cell 0 rfl, h.cell 1 rfl, h.cell 2 rfl⟩
theorem spoils_bodyM (s c i b0 b1 b2 b3 b4 b5 b6 b7 : Int) (hb : ∀ x ∈ [b0, b1, b2, b3, b4, b5, b6, b7], 0 ≤ x ∧ x < 256) (w : World) :
    Calls Tryz.prog 4 #[.agg #[.int .i64 s, .int .i64 c, .int .i64 i], .agg #[.int .u8 b0, .int .u8 b1, .int .u8 b2, .int .u8 b3, .int .u8 b4, .int .u8 b5, .int .u8 b6, .int .u8 b7]] w fun e w' => e = .returned (.bool true) ∧ Below w.heap.size w w' := by
  obtain ⟨w0, hw0⟩ : ∃ w0, (w.alloc (.cells #[.int .i64 s, .int .i64 c, .int .i64 i] 23)).alloc (.cells #[.int .u8 b0, .int .u8 b1, .int .u8 b2, .int .u8 b3, .int .u8 b4, .int .u8 b5, .int .u8 b6, .int .u8 b7] 37) = w0 := ⟨_, rfl⟩
  have hX : Blk w0 w.heap.size #[.int .i64 s, .int .i64 c, .int .i64 i] 23 := by rw [← hw0]; exact (Blk.new w _ _).alloc _
  have hA : Blk w0 (w.heap.size + 1) #[.int .u8 b0, .int .u8 b1, .int .u8 b2, .int .u8 b3, .int .u8 b4, .int .u8 b5, .int .u8 b6, .int .u8 b7] 37 := by rw [← hw0]; exact Blk.newAt _ _ _ (by simp)
  have k0 : Below w.heap.size w w0 := by rw [← hw0]; exact ((Below.refl _ w).alloc (Nat.le_refl _) _).alloc (by simp) _
  obtain ⟨bx, hbx⟩ : ∃ b, w.heap.size = b := ⟨_, rfl⟩
  go_enter Tryz.func4, Tryz.ntmps4
  go_wp2_with fail
  clear hw0
  rw [hbx] at hX
  rw [hbx] at hA
  try simp only [hbx]
  have H0 := Lib.hid (And.intro hX hA)
  clear hX hA
  refine (memory_okM _).mono ?_; rintro e W ⟨k, rfl, L⟩
  have hX := H0.out.1.below L.bel H0.out.1.lt
  have d0 := hX.cell 0 (v := .int .i64 s) rfl
  have d1 := hX.cell 1 (v := .int .i64 c) rfl
  have d2 := hX.cell 2 (v := .int .i64 i) rfl
  go_wp2_with fail
  refine (rAsks_okM s c i _).mono ?_; rintro e W2 ⟨rfl, j⟩
  replace L := L.step j
  clear d0 d1 d2 j hX
  by_cases hz : spE s c i = 0
  · obtain ⟨⟨hs4, hc8⟩, hi⟩ := spE_zero.1 hz
    have hi85 := cnt_96 hc8
    obtain ⟨e0, sp, _⟩ := opn_ok L.gd hs4 (n := 63) (by decide) (fun q _ _ => memS_has q) (by rw [memS_left]; decide)
    have bk := BkP.of hs4 sp
    have HZ := Lib.hid hz
    rw [hz]
    have hX := H0.out.1.below L.bel H0.out.1.lt
    have d0 := hX.cell 0 (v := .int .i64 s) rfl
    go_wp2_with fail
    refine (mOpen_ok L s 63).mono ?_; rintro e W3 ⟨rfl, L3, _⟩
    rw [e0]
    obtain ⟨sO, hsO⟩ : ∃ x, opnF memS s 63 = x := ⟨_, rfl⟩
    rw [hsO] at L3 bk
    clear d0 hX sp hsO L hz e0
    go_wp2_with fail
    refine (num_callsM _ _).mono ?_; rintro e _ ⟨rfl, rfl⟩
    go_wp2_with fail
    obtain ⟨Y, hY⟩ : ∃ Y, W3.drew = Y := ⟨_, rfl⟩
    have j : Below W3.heap.size W3 Y := by rw [← hY]; exact (Below.refl _ W3).drew
    replace L := L3.step j
    clear L3 j
    have hX := H0.out.1.below L.bel H0.out.1.lt
    refine wp_onlyN ?_
    refine wp_region_held_drew (S := SpoS bx s c i) (by kernel_rfl) (by rw [hY]; exact SpoS.of hX) (fun hHeld => ?_)
    rw [hY] at hHeld ⊢
    clear hY
    refine wpAnyH_take (i := 0) (v := ?_) rfl (by kernel_rfl) (by kernel_rfl) (by kernel_rfl) (fun _ _ _ h => h) (Or.inl ⟨by rfl, ?_⟩) (by assumption) ?_
    rotate_left
    · (intro Y hSw; (try dsimp only at hSw); obtain ⟨hS0, hS1, hS2⟩ := hSw; go_simp; try with_reducible rfl)
    try simp only [Act.put, List.getElem_toArray, List.getElem_cons_zero, List.getElem_cons_succ, List.setIfInBounds_toArray, List.set_cons_zero, List.set_cons_succ]
    refine wpAnyH_take (i := 1) (v := ?_) rfl (by kernel_rfl) (by kernel_rfl) (by kernel_rfl) (fun _ _ _ h => h) (Or.inl ⟨by rfl, ?_⟩) (by assumption) ?_
    rotate_left
    · (intro Y hSw; (try dsimp only at hSw); obtain ⟨hS0, hS1, hS2⟩ := hSw; go_simp; try with_reducible rfl)
    try simp only [Act.put, List.getElem_toArray, List.getElem_cons_zero, List.getElem_cons_succ, List.setIfInBounds_toArray, List.set_cons_zero, List.set_cons_succ]
    refine wpAnyH_take (i := 3) (v := ?_) rfl (by kernel_rfl) (by kernel_rfl) (by kernel_rfl) (fun _ _ _ h => h) (Or.inl ⟨by rfl, ?_⟩) (by assumption) ?_
    rotate_left
    · (intro Y hSw; (try dsimp only at hSw); obtain ⟨hS0, hS1, hS2⟩ := hSw; go_simp; try with_reducible rfl)
    try simp only [Act.put, List.getElem_toArray, List.getElem_cons_zero, List.getElem_cons_succ, List.setIfInBounds_toArray, List.set_cons_zero, List.set_cons_succ]
    refine wpAnyH_take (i := 4) (v := ?_) rfl (by kernel_rfl) (by kernel_rfl) (by kernel_rfl) (fun _ _ _ h => h) (Or.inl ⟨by rfl, ?_⟩) (by assumption) ?_
    rotate_left
    · (intro Y hSw; (try dsimp only at hSw); obtain ⟨hS0, hS1, hS2⟩ := hSw; go_simp; try with_reducible rfl)
    try simp only [Act.put, List.getElem_toArray, List.getElem_cons_zero, List.getElem_cons_succ, List.setIfInBounds_toArray, List.set_cons_zero, List.set_cons_succ]
    refine wpAnyH_take (i := 5) (v := ?_) rfl (by kernel_rfl) (by kernel_rfl) (by kernel_rfl) (fun _ _ _ h => h) (Or.inl ⟨by rfl, ?_⟩) (by assumption) ?_
    rotate_left
    · (intro Y hSw; (try dsimp only at hSw); obtain ⟨hS0, hS1, hS2⟩ := hSw; go_simp; try with_reducible rfl)
    try simp only [Act.put, List.getElem_toArray, List.getElem_cons_zero, List.getElem_cons_succ, List.setIfInBounds_toArray, List.set_cons_zero, List.set_cons_succ]
    refine wpAnyH_ready (rs := [2]) (by kernel_rfl) (by simp) ?_
    refine AllReadyH.cons rfl (fun K hK => ?_) AllReadyH.nil
    go_simp
    refine (rBook_calls s (decide_eq_true hs4) _).mono ?_; rintro e _ ⟨rfl, rfl⟩
    go_wp2_with fail
    refine hK.out _ _ (hHeld) (fun hHeld => ?_)
    clear hK K
    try simp only [Act.put, List.getElem_toArray, List.getElem_cons_zero, List.getElem_cons_succ, List.setIfInBounds_toArray, List.set_cons_zero, List.set_cons_succ]
    refine wpAnyH_take (i := 6) (v := ?_) rfl (by kernel_rfl) (by kernel_rfl) (by kernel_rfl) (fun _ _ _ h => h) (Or.inl ⟨by rfl, ?_⟩) (by assumption) ?_
    rotate_left
    · (intro Y hSw; (try dsimp only at hSw); obtain ⟨hS0, hS1, hS2⟩ := hSw; go_simp; try with_reducible rfl)
    try simp only [Act.put, List.getElem_toArray, List.getElem_cons_zero, List.getElem_cons_succ, List.setIfInBounds_toArray, List.set_cons_zero, List.set_cons_succ]
    refine wpAnyH_take (i := 7) (v := ?_) rfl (by kernel_rfl) (by kernel_rfl) (by kernel_rfl) (fun _ _ _ h => h) (Or.inl ⟨by rfl, ?_⟩) (by assumption) ?_
    rotate_left
    · (intro Y hSw; (try dsimp only at hSw); obtain ⟨hS0, hS1, hS2⟩ := hSw; go_simp; try with_reducible rfl)
    try simp only [Act.put, List.getElem_toArray, List.getElem_cons_zero, List.getElem_cons_succ, List.setIfInBounds_toArray, List.set_cons_zero, List.set_cons_succ]
    refine wpAnyH_done (by kernel_rfl) ?_ _
    rw [onlyN_normal]
    clear hX hHeld
    go_wp2_with fail
    obtain ⟨Y2, hY⟩ : ∃ Y2, Y.drew = Y2 := ⟨_, rfl⟩
    have j : Below Y.heap.size Y Y2 := by rw [← hY]; exact (Below.refl _ Y).drew
    replace L := L.step j
    clear j
    have hX := H0.out.1.below L.bel H0.out.1.lt
    have hA := H0.out.2.below L.bel H0.out.2.lt
    refine wp_onlyN ?_
    refine wp_region_held_drew (S := SpoS bx s c i) (by kernel_rfl) (by rw [hY]; exact SpoS.of hX) (fun hHeld => ?_)
    rw [hY] at hHeld ⊢
    clear hY
    have e8 : spA s c i = 256 * (64 * s + 1) + (768 * c + 8 * i) := rfl
    obtain ⟨p0, p1⟩ := spA_bd HZ.out
    refine wpAnyH_take (i := 0) (v := ?_) rfl (by kernel_rfl) (by kernel_rfl) (by kernel_rfl) (fun _ _ _ h => h) (Or.inl ⟨by rfl, ?_⟩) (by assumption) ?_
    rotate_left
    · (intro Y hSw; (try dsimp only at hSw); obtain ⟨hS0, hS1, hS2⟩ := hSw; go_simp; try with_reducible rfl)
    try simp only [Act.put, List.getElem_toArray, List.getElem_cons_zero, List.getElem_cons_succ, List.setIfInBounds_toArray, List.set_cons_zero, List.set_cons_succ]
    refine wpAnyH_take (i := 1) (v := ?_) rfl (by kernel_rfl) (by kernel_rfl) (by kernel_rfl) (fun _ _ _ h => h) (Or.inl ⟨by rfl, ?_⟩) (by assumption) ?_
    rotate_left
    · (intro Y hSw; (try dsimp only at hSw); obtain ⟨hS0, hS1, hS2⟩ := hSw; go_simp; try with_reducible rfl)
    try simp only [Act.put, List.getElem_toArray, List.getElem_cons_zero, List.getElem_cons_succ, List.setIfInBounds_toArray, List.set_cons_zero, List.set_cons_succ]
    refine wpAnyH_take (i := 2) (v := ?_) rfl (by kernel_rfl) (by kernel_rfl) (by kernel_rfl) (fun _ _ _ h => h) (Or.inl ⟨by rfl, ?_⟩) (by assumption) ?_
    rotate_left
    · (intro Y hSw; (try dsimp only at hSw); obtain ⟨hS0, hS1, hS2⟩ := hSw; go_simp; try with_reducible rfl)
    try simp only [Act.put, List.getElem_toArray, List.getElem_cons_zero, List.getElem_cons_succ, List.setIfInBounds_toArray, List.set_cons_zero, List.set_cons_succ]
    refine wpAnyH_take (i := 3) (v := ?_) rfl (by kernel_rfl) (by kernel_rfl) (by kernel_rfl) (fun _ _ _ h => h) (Or.inl ⟨by rfl, ?_⟩) (by assumption) ?_
    rotate_left
    · (intro Y hSw; (try dsimp only at hSw); obtain ⟨hS0, hS1, hS2⟩ := hSw; go_simp; try with_reducible rfl)
    try simp only [Act.put, List.getElem_toArray, List.getElem_cons_zero, List.getElem_cons_succ, List.setIfInBounds_toArray, List.set_cons_zero, List.set_cons_succ]
    refine wpAnyH_take (i := 4) (v := ?_) rfl (by kernel_rfl) (by kernel_rfl) (by kernel_rfl) (fun _ _ _ h => h) (Or.inl ⟨by rfl, ?_⟩) (by assumption) ?_
    rotate_left
    · (intro Y hSw; (try dsimp only at hSw); obtain ⟨hS0, hS1, hS2⟩ := hSw; go_simp; try with_reducible rfl)
    try simp only [Act.put, List.getElem_toArray, List.getElem_cons_zero, List.getElem_cons_succ, List.setIfInBounds_toArray, List.set_cons_zero, List.set_cons_succ]
    refine wpAnyH_take (i := 5) (v := ?_) rfl (by kernel_rfl) (by kernel_rfl) (by kernel_rfl) (fun _ _ _ h => h) (Or.inl ⟨by rfl, ?_⟩) (by assumption) ?_
    rotate_left
    · (intro Y hSw; (try dsimp only at hSw); obtain ⟨hS0, hS1, hS2⟩ := hSw; go_simp; try with_reducible rfl)
    try simp only [Act.put, List.getElem_toArray, List.getElem_cons_zero, List.getElem_cons_succ, List.setIfInBounds_toArray, List.set_cons_zero, List.set_cons_succ]
    refine wpAnyH_take (i := 6) (v := ?_) rfl (by kernel_rfl) (by kernel_rfl) (by kernel_rfl) (fun _ _ _ h => h) (Or.inl ⟨by rfl, ?_⟩) (by assumption) ?_
    rotate_left
    · (intro Y hSw; (try dsimp only at hSw); obtain ⟨hS0, hS1, hS2⟩ := hSw; go_simp; try with_reducible rfl)
    try simp only [Act.put, List.getElem_toArray, List.getElem_cons_zero, List.getElem_cons_succ, List.setIfInBounds_toArray, List.set_cons_zero, List.set_cons_succ]
    refine wpAnyH_take (i := 7) (v := ?_) rfl (by kernel_rfl) (by kernel_rfl) (by kernel_rfl) (fun _ _ _ h => h) (Or.inl ⟨by rfl, ?_⟩) (by assumption) ?_
    rotate_left
    · (intro Y hSw; (try dsimp only at hSw); obtain ⟨hS0, hS1, hS2⟩ := hSw; go_simp; try with_reducible rfl)
    try simp only [Act.put, List.getElem_toArray, List.getElem_cons_zero, List.getElem_cons_succ, List.setIfInBounds_toArray, List.set_cons_zero, List.set_cons_succ]
    refine wpAnyH_take (i := 8) (v := ?_) rfl (by kernel_rfl) (by kernel_rfl) (by kernel_rfl) (fun _ _ _ h => h) (Or.inl ⟨by rfl, ?_⟩) (by assumption) ?_
    rotate_left
    · (intro Y hSw; (try dsimp only at hSw); obtain ⟨hS0, hS1, hS2⟩ := hSw; go_simp; try with_reducible rfl)
    try simp only [Act.put, List.getElem_toArray, List.getElem_cons_zero, List.getElem_cons_succ, List.setIfInBounds_toArray, List.set_cons_zero, List.set_cons_succ]
    refine wpAnyH_ready (rs := [9]) (by kernel_rfl) (by simp) ?_
    refine AllReadyH.cons rfl (fun K hK => ?_) AllReadyH.nil
    go_simp
    have hv : RowAt Y2.heap.size Y2 (.slice (some ⟨bx + 1, 0, none⟩) 8 8) ([b0, b1, b2, b3, b4, b5, b6, b7] : List Int).length (intVals .u8 [b0, b1, b2, b3, b4, b5, b6, b7]) := RowAt.of_blk (B := Y2.heap.size) hA hA.lt rfl
    rw [show IntKind.i64.wrap (3 * c) = 3 * c from IntWalk.i64_in _ (by omega), show IntKind.i64.wrap (64 * s + 1 + 3 * c) = 64 * s + 1 + 3 * c from IntWalk.i64_in _ (by omega), show IntKind.i64.wrap (256 * (64 * s + 1 + 3 * c)) = 256 * (64 * s + 1 + 3 * c) from IntWalk.i64_in _ (by omega), show IntKind.i64.wrap (8 * i) = 8 * i from IntWalk.i64_in _ (by omega),
      show IntKind.i64.wrap (256 * (64 * s + 1 + 3 * c) + 8 * i) = spA s c i from by rw [IntWalk.i64_in _ (by omega), e8]; omega, show IntKind.u32.wrap (spA s c i) = spA s c i from IntWalk.u32_in _ (by omega)]
    refine (L.poke (spA s c i) (by omega) (by omega) [b0, b1, b2, b3, b4, b5, b6, b7] (Nat.le_refl _) hv).mono ?_; rintro e W4 ⟨rfl, L4, _⟩
    have hr0 : rchE sO.D (-2) (spA s c i) (([b0, b1, b2, b3, b4, b5, b6, b7] : List Int).length : Nat) 2 = 0 := bk.reach p0 (by simp; omega) (by simp)
    obtain ⟨_, wsp⟩ := bk.wr (a := spA s c i) (bs := [b0, b1, b2, b3, b4, b5, b6, b7]) L.gd p0 (by simp; omega) (by simp)
    have hrd := bk.wrrd (a := spA s c i) (bs := [b0, b1, b2, b3, b4, b5, b6, b7]) L.gd p0 (by simp; omega) (by simp)
    have bk4 := bk.d wsp.d.1
    rw [hr0]
    obtain ⟨s4, hs4'⟩ : ∃ x, wrS sO (-2) (spA s c i) [b0, b1, b2, b3, b4, b5, b6, b7] = x := ⟨_, rfl⟩
    rw [hs4'] at L4 hrd bk4
    have hX := H0.out.1.below L4.bel H0.out.1.lt
    have hA := H0.out.2.below L4.bel H0.out.2.lt
    clear hr0 wsp hs4' hv L e8
    go_wp2_with fail
    refine hK.out _ _ (SpoS.of hX) (fun hHeld => ?_)
    clear hK K
    try simp only [Act.put, List.getElem_toArray, List.getElem_cons_zero, List.getElem_cons_succ, List.setIfInBounds_toArray, List.set_cons_zero, List.set_cons_succ]
    refine wpAnyH_take (i := 10) (v := ?_) rfl (by kernel_rfl) (by kernel_rfl) (by kernel_rfl) (fun _ _ _ h => h) (Or.inl ⟨by rfl, ?_⟩) (by assumption) ?_
    rotate_left
    · (intro Y hSw; (try dsimp only at hSw); obtain ⟨hS0, hS1, hS2⟩ := hSw; go_simp; try with_reducible rfl)
    try simp only [Act.put, List.getElem_toArray, List.getElem_cons_zero, List.getElem_cons_succ, List.setIfInBounds_toArray, List.set_cons_zero, List.set_cons_succ]
    refine wpAnyH_done (by kernel_rfl) ?_ _
    rw [onlyN_normal]
    clear hHeld
    go_wp2_with fail
    refine (num_callsM _ _).mono ?_; rintro e _ ⟨rfl, rfl⟩
    have d0 := hX.cell 0 (v := .int .i64 s) rfl
    have d1 := hX.cell 1 (v := .int .i64 c) rfl
    have d2 := hX.cell 2 (v := .int .i64 i) rfl
    go_wp2_with fail
    clear d0 d1 d2
    refine (mGet_yes L4 HZ.out bk4 [b0, b1, b2, b3, b4, b5, b6, b7] hrd rfl hb).mono ?_; rintro e W5 ⟨rfl, j⟩
    replace L4 := L4.step j
    clear j hX hA bk bk4 hrd p0 p1
    have K : Below w.heap.size w W5 := k0.trans (L4.bel.mono k0.size)
    have hA := H0.out.2.below L4.bel H0.out.2.lt
    have hlt := hA.lt
    have hwz := k0.size
    clear L4
    by_cases ok : recOk [b0, b1, b2, b3, b4, b5, b6, b7] = true
    · have ok2 : b1 = 0 ∧ b0 ≤ 4 := by
        unfold recOk at ok
        rw [Bool.and_eq_true, isSt_iff, decide_eq_true_iff] at ok
        exact ⟨ok.1, ok.2.2⟩
      obtain ⟨rfl, h4⟩ := ok2
      have h00 := (hb b0 (by simp)).1
      have hb2 := hb b2 (by simp)
      have hb3 := hb b3 (by simp)
      have hb4 := hb b4 (by simp)
      have hb5 := hb b5 (by simp)
      have hb6 := hb b6 (by simp)
      have hb7 := hb b7 (by simp)
      obtain ⟨v1, v2⟩ := recV_yes (b2 := b2) (b3 := b3) (b4 := b4) (b5 := b5) (b6 := b6) (b7 := b7) ⟨h00, h4⟩
      have ho := nonce_or b4 b5 b6 b7 hb4 hb5 hb6 hb7
      have t0 : decide (4 < b0) = false := decide_eq_false (by omega)
      rw [v1, v2]
      clear v1 v2 ok
      have a0 := hA.cell 0 (v := .int .u8 b0) rfl
      have a1 := hA.cell 1 (v := .int .u8 0) rfl
      have a2 := hA.cell 2 (v := .int .u8 b2) rfl
      have a3 := hA.cell 3 (v := .int .u8 b3) rfl
      have a4 := hA.cell 4 (v := .int .u8 b4) rfl
      have a5 := hA.cell 5 (v := .int .u8 b5) rfl
      have a6 := hA.cell 6 (v := .int .u8 b6) rfl
      have a7 := hA.cell 7 (v := .int .u8 b7) rfl
      go_wp2_with fail
      refine (num_callsM _ _).mono ?_; rintro e _ ⟨rfl, rfl⟩
      go_wp2_with fail
      refine (works_okM _).mono ?_; rintro e Z9 ⟨rfl, j9⟩
      go_wp2_with fail
      go_ret
      exact ⟨rfl, ((K.alloc K.size _).alloc (by have := K.size; simp; omega) _).trans (j9.mono ((K.alloc K.size _).alloc (by have := K.size; simp; omega) _).size)⟩
    · have okf : recOk [b0, b1, b2, b3, b4, b5, b6, b7] = false := by simpa using ok
      obtain ⟨v1, v2⟩ := recV_no okf
      rw [v1, v2]
      clear v1 v2
      have a0 := hA.cell 0 (v := .int .u8 b0) rfl
      have a1 := hA.cell 1 (v := .int .u8 b1) rfl
      by_cases h4 : 4 < b0
      · have t0 : decide (4 < b0) = true := decide_eq_true h4
        clear ok okf
        go_wp2_with fail
        refine (num_callsM _ _).mono ?_; rintro e _ ⟨rfl, rfl⟩
        go_wp2_with fail
        refine (works_okM _).mono ?_; rintro e Z9 ⟨rfl, j9⟩
        go_wp2_with fail
        go_ret
        exact ⟨rfl, (K.alloc K.size _).trans (j9.mono (K.alloc K.size _).size)⟩
      · have t0 : decide (4 < b0) = false := decide_eq_false h4
        have h00 := (hb b0 (by simp)).1
        have h1 : b1 ≠ 0 := fun e => by
          unfold recOk at okf
          rw [isSt_iff.2 (show 0 ≤ List.getD [b0, b1, b2, b3, b4, b5, b6, b7] 0 0 ∧ List.getD [b0, b1, b2, b3, b4, b5, b6, b7] 0 0 ≤ 4 from ⟨h00, by simpa using h4⟩), show List.getD [b0, b1, b2, b3, b4, b5, b6, b7] 1 0 = 0 from e] at okf
          simp at okf
        have t1 : (b1 == 0) = false := by simpa using h1
        clear ok okf
        go_wp2_with fail
        refine (num_callsM _ _).mono ?_; rintro e _ ⟨rfl, rfl⟩
        go_wp2_with fail
        refine (works_okM _).mono ?_; rintro e Z9 ⟨rfl, j9⟩
        go_wp2_with fail
        go_ret
        exact ⟨rfl, (K.alloc K.size _).trans (j9.mono (K.alloc K.size _).size)⟩
  · have hz1 : (spE s c i == 0) = false := by simpa using hz
    obtain ⟨q, hq⟩ : ∃ q, spE s c i = q := ⟨_, rfl⟩
    rw [hq] at hz hz1 ⊢
    clear hq
    go_wp2_with fail
    refine (works_okM _).mono ?_; rintro e Z9 ⟨rfl, j9⟩
    go_wp2_with fail
    go_ret
    exact ⟨rfl, (k0.trans (L.bel.mono k0.size)).trans (j9.mono (k0.trans (L.bel.mono k0.size)).size)⟩
end Go.Proofs.YtlpchcdalfkfcaaGreat
