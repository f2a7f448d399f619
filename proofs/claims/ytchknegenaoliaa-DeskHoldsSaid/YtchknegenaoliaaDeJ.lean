/-
  Package desk: Bind. No condition.
-/
import Derived.Test.YtchknegenaoliaaDeI
namespace Go.Proofs.Ytchknegenaoliaa
open Go.RowKit
attribute [local go_sem] Oper.semAt_some
set_option maxHeartbeats 800000
set_option maxRecDepth 4000

structure BnS (g m b : Nat) (h : Hnd) (Y : World) : Prop where
  s : Y.cell? ⟨g, 0, none⟩ = some (.int .i64 h.s)
  g : Y.cell? ⟨g, 1, none⟩ = some (.int .i64 h.g)
  c : Y.cell? ⟨b, 16, none⟩ = some (.map (some m))
theorem Bind_ok {w : World} {b m : Nat} {P : List Ten} {T : Thr} (hD : DkAt w b m P T) (t : Int) (h : Hnd) :
    Calls Try.prog 11 #[.pointer (some ⟨b, 0, none⟩), .int .i64 t, .agg #[.int .i64 h.s, .int .i64 h.g]] w fun e w' => e = .returned (.tuple #[encH (binH P T t h), .int .i64 (binE P t h)]) ∧ DkAt w' b m P (binT P T t h) ∧ Chg m w w' := by
  obtain ⟨w0, hw0⟩ : ∃ w0, (w.alloc (.cells #[.int .i64 h.s, .int .i64 h.g] 28)).alloc (.cells #[.int .i64 0, .int .i64 0] 28) = w0 := ⟨_, rfl⟩
  have hH : Blk w0 w.heap.size #[.int .i64 h.s, .int .i64 h.g] 28 := by rw [← hw0]; exact (Blk.new w _ _).alloc _
  have hR : Blk w0 (w.heap.size + 1) #[.int .i64 0, .int .i64 0] 28 := by rw [← hw0]; exact Blk.newAt _ _ _ (by simp)
  have k0 : Below w.heap.size w w0 := by rw [← hw0]; exact ((Below.refl _ w).alloc (Nat.le_refl _) _).alloc (by simp) _
  have h0 := hD.step k0
  have z0 := k0.size
  have hbl := hD.blk.lt
  have hml := hD.mp.lt
  have hS : ∀ Y, Below w0.heap.size w0 Y → BnS w.heap.size m b h Y := fun Y k => ⟨(hH.below k hH.lt).cell 0 rfl, (hH.below k hH.lt).cell 1 rfl, (h0.step k).cellm⟩
  have HS := Lib.hid hS
  clear hS hD
  go_enter Try.func11, Try.ntmps11
  go_wp2_with fail
  clear hw0
  refine wp_onlyN ?_
  refine wp_region_held_drew (S := BnS w.heap.size m b h) (by kernel_rfl) (HS.out _ (Below.refl _ w0).drew) (fun hHeld => ?_)
  refine wpAnyH_take (i := 0) (v := ?_) rfl (by kernel_rfl) (by kernel_rfl) (by kernel_rfl) (fun _ _ _ h => h) (Or.inl ⟨by rfl, ?_⟩) (by assumption) ?_
  rotate_left
  · (intro Y hSw; (try dsimp only at hSw); obtain ⟨hS0, hS1, hS2⟩ := hSw; go_simp; try with_reducible rfl)
  try simp only [Act.put, List.getElem_toArray, List.getElem_cons_zero, List.getElem_cons_succ, List.setIfInBounds_toArray, List.set_cons_zero, List.set_cons_succ]
  refine wpAnyH_take (i := 2) (v := ?_) rfl (by kernel_rfl) (by kernel_rfl) (by kernel_rfl) (fun _ _ _ h => h) (Or.inl ⟨by rfl, ?_⟩) (by assumption) ?_
  rotate_left
  · (intro Y hSw; (try dsimp only at hSw); obtain ⟨hS0, hS1, hS2⟩ := hSw; go_simp; try with_reducible rfl)
  try simp only [Act.put, List.getElem_toArray, List.getElem_cons_zero, List.getElem_cons_succ, List.setIfInBounds_toArray, List.set_cons_zero, List.set_cons_succ]
  refine wpAnyH_take (i := 4) (v := ?_) rfl (by kernel_rfl) (by kernel_rfl) (by kernel_rfl) (fun _ _ _ h => h) (Or.inl ⟨by rfl, ?_⟩) (by assumption) ?_
  rotate_left
  · (intro Y hSw; (try dsimp only at hSw); obtain ⟨hS0, hS1, hS2⟩ := hSw; go_simp; try with_reducible rfl)
  try simp only [Act.put, List.getElem_toArray, List.getElem_cons_zero, List.getElem_cons_succ, List.setIfInBounds_toArray, List.set_cons_zero, List.set_cons_succ]
  refine wpAnyH_take (i := 5) (v := ?_) rfl (by kernel_rfl) (by kernel_rfl) (by kernel_rfl) (fun _ _ _ h => h) (Or.inl ⟨by rfl, ?_⟩) (by assumption) ?_
  rotate_left
  · (intro Y hSw; (try dsimp only at hSw); obtain ⟨hS0, hS1, hS2⟩ := hSw; go_simp; try with_reducible rfl)
  try simp only [Act.put, List.getElem_toArray, List.getElem_cons_zero, List.getElem_cons_succ, List.setIfInBounds_toArray, List.set_cons_zero, List.set_cons_succ]
  refine wpAnyH_take (i := 6) (v := ?_) rfl (by kernel_rfl) (by kernel_rfl) (by kernel_rfl) (fun _ _ _ h => h) (Or.inl ⟨by rfl, ?_⟩) (by assumption) ?_
  rotate_left
  · (intro Y hSw; (try dsimp only at hSw); obtain ⟨hS0, hS1, hS2⟩ := hSw; go_simp; try with_reducible rfl)
  try simp only [Act.put, List.getElem_toArray, List.getElem_cons_zero, List.getElem_cons_succ, List.setIfInBounds_toArray, List.set_cons_zero, List.set_cons_succ]
  refine wpAnyH_take (i := 8) (v := ?_) rfl (by kernel_rfl) (by kernel_rfl) (by kernel_rfl) (fun _ _ _ h => h) (Or.inl ⟨by rfl, ?_⟩) (by assumption) ?_
  rotate_left
  · (intro Y hSw; (try dsimp only at hSw); obtain ⟨hS0, hS1, hS2⟩ := hSw; go_simp; try with_reducible rfl)
  try simp only [Act.put, List.getElem_toArray, List.getElem_cons_zero, List.getElem_cons_succ, List.setIfInBounds_toArray, List.set_cons_zero, List.set_cons_succ]
  refine wpAnyH_take (i := 9) (v := ?_) rfl (by kernel_rfl) (by kernel_rfl) (by kernel_rfl) (fun _ _ _ h => h) (Or.inl ⟨by rfl, ?_⟩) (by assumption) ?_
  rotate_left
  · (intro Y hSw; (try dsimp only at hSw); obtain ⟨hS0, hS1, hS2⟩ := hSw; go_simp; try with_reducible rfl)
  try simp only [Act.put, List.getElem_toArray, List.getElem_cons_zero, List.getElem_cons_succ, List.setIfInBounds_toArray, List.set_cons_zero, List.set_cons_succ]
  refine wpAnyH_ready (rs := [1]) (by kernel_rfl) (by simp) ?_
  refine AllReadyH.cons rfl (fun K hK => ?_) AllReadyH.nil
  go_simp
  refine (is_calls _ _).mono ?_; rintro e w1 ⟨rfl, h1⟩
  have k1 := (Below.refl w0.heap.size w0).drew.trans (h1.mono (Nat.le_refl _))
  go_simp
  refine hK.out _ _ (HS.out _ k1) (fun hHeld => ?_)
  clear hK K
  try simp only [Act.put, List.getElem_toArray, List.getElem_cons_zero, List.getElem_cons_succ, List.setIfInBounds_toArray, List.set_cons_zero, List.set_cons_succ]
  refine wpAnyH_ready (rs := [3]) (by kernel_rfl) (by simp) ?_
  refine AllReadyH.cons rfl (fun K hK => ?_) AllReadyH.nil
  go_simp
  refine (within_calls t 3 w1).mono ?_; rintro e w2 ⟨rfl, q1, q2, h2⟩
  have k2 := k1.trans (h2.mono k1.size)
  have hQ : NumB w2 w1.heap.size (w1.heap.size + 1) t 3 := ⟨q1, q2⟩
  go_simp
  refine hK.out _ _ (HS.out _ k2) (fun hHeld => ?_)
  clear hK K
  try simp only [Act.put, List.getElem_toArray, List.getElem_cons_zero, List.getElem_cons_succ, List.setIfInBounds_toArray, List.set_cons_zero, List.set_cons_succ]
  refine wpAnyH_ready (rs := [7]) (by kernel_rfl) (by simp) ?_
  refine AllReadyH.cons rfl (fun K hK => ?_) AllReadyH.nil
  go_simp
  refine (place_calls (some ⟨b, 0, none⟩) h.s w2).mono ?_; rintro e w3 ⟨rfl, p1, p2, h3⟩
  have k3 := k2.trans (h3.mono k2.size)
  have hA : TwoB w3 w2.heap.size (w2.heap.size + 1) b #[.int .i64 h.s] 3 := ⟨p1, p2⟩
  replace hQ := hQ.step h3
  go_simp
  refine hK.out _ _ (HS.out _ k3) (fun hHeld => ?_)
  clear hK K
  try simp only [Act.put, List.getElem_toArray, List.getElem_cons_zero, List.getElem_cons_succ, List.setIfInBounds_toArray, List.set_cons_zero, List.set_cons_succ]
  refine wpAnyH_ready (rs := [10]) (by kernel_rfl) (by simp) ?_
  refine AllReadyH.cons rfl (fun K hK => ?_) AllReadyH.nil
  go_simp
  refine (whose_calls (some ⟨b, 0, none⟩) h w3).mono ?_; rintro e w4 ⟨rfl, q3, q4, h4⟩
  have k4 := k3.trans (h4.mono k3.size)
  have hB : TwoB w4 w3.heap.size (w3.heap.size + 1) b #[.int .i64 h.s, .int .i64 h.g] 28 := ⟨q3, q4⟩
  replace hA := hA.step h4
  replace hQ := hQ.step h4
  have z4 := k4.size
  go_simp
  refine hK.out _ _ (HS.out _ k4) (fun hHeld => ?_)
  clear hK K
  try simp only [Act.put, List.getElem_toArray, List.getElem_cons_zero, List.getElem_cons_succ, List.setIfInBounds_toArray, List.set_cons_zero, List.set_cons_succ]
  refine wpAnyH_ready (rs := [11]) (by kernel_rfl) (by simp) ?_
  refine AllReadyH.cons rfl (fun K hK => ?_) AllReadyH.nil
  go_simp
  have k5 := k4.alloc z4 (.cells (askList (binAsks b w1.heap.size w2.heap.size w3.heap.size P t h)).toArray 76)
  have hrow : AskRow (w4.alloc (.cells (askList (binAsks b w1.heap.size w2.heap.size w3.heap.size P t h)).toArray 76)) w4.heap.size (binAsks b w1.heap.size w2.heap.size w3.heap.size P t h) := askRow_of (Blk.new w4 _ _)
  have j5 : Below w4.heap.size w4 (w4.alloc (.cells (askList (binAsks b w1.heap.size w2.heap.size w3.heap.size P t h)).toArray 76)) := (Below.refl _ w4).alloc (Nat.le_refl _) _
  have hA5 := hA.step j5
  have hQ5 := hQ.step j5
  have hB5 := hB.step j5
  refine hK.out _ _ (HS.out _ k5) (fun hHeld => ?_)
  clear hK K
  try simp only [Act.put, List.getElem_toArray, List.getElem_cons_zero, List.getElem_cons_succ, List.setIfInBounds_toArray, List.set_cons_zero, List.set_cons_succ]
  change wpAnyH _ _ _ _ _ _ _ _ (w4.alloc (.cells (askList (binAsks b w1.heap.size w2.heap.size w3.heap.size P t h)).toArray 76))
  generalize (w4.alloc (.cells (askList (binAsks b w1.heap.size w2.heap.size w3.heap.size P t h)).toArray 76)) = w5 at k5 hrow hA5 hQ5 hB5 j5 hHeld ⊢
  have hans := bin_answers (h0.step k5) hQ5 hA5 hB5
  refine wpAnyH_ready (rs := [12]) (by kernel_rfl) (by simp) ?_
  refine AllReadyH.cons rfl (fun K hK => ?_) AllReadyH.nil
  go_simp
  refine (asked_ok w5 w4.heap.size 4 4 _ rfl (by simp [binAsks]) (Lib.hid hrow) (Lib.hid hans)).mono ?_; rintro e w6 ⟨rfl, h6⟩
  rw [binAsks_eq]
  have k6 := k5.trans (h6.mono k5.size)
  go_simp
  refine hK.out _ _ (HS.out _ k6) (fun hHeld => ?_)
  clear hK K
  try simp only [Act.put, List.getElem_toArray, List.getElem_cons_zero, List.getElem_cons_succ, List.setIfInBounds_toArray, List.set_cons_zero, List.set_cons_succ]
  refine wpAnyH_take (i := 13) (v := ?_) rfl (by kernel_rfl) (by kernel_rfl) (by kernel_rfl) (fun _ _ _ h => h) (Or.inl ⟨by rfl, ?_⟩) (by assumption) ?_
  rotate_left
  · (intro Y hSw; (try dsimp only at hSw); obtain ⟨hS0, hS1, hS2⟩ := hSw; go_simp; try with_reducible rfl)
  try simp only [Act.put, List.getElem_toArray, List.getElem_cons_zero, List.getElem_cons_succ, List.setIfInBounds_toArray, List.set_cons_zero, List.set_cons_succ]
  refine wpAnyH_done (by kernel_rfl) ?_ _
  rw [onlyN_normal]
  clear hrow hans hA5 hQ5 hB5 hA hQ hB p1 p2 q1 q2 q3 q4 h6 k5 k4 k3 k2 k1 h1 h2 h3 h4 j5 hHeld z4
  have hT6 := h0.step k6
  have hR6 := hR.below k6 hR.lt
  have hch : Chg m w w6 := .of_below (k0.trans (k6.mono z0))
  obtain ⟨b0, b1, c0⟩ := HS.out _ k6
  have r0 : w6.cell? ⟨w.heap.size + 1, 0, none⟩ = some (.int .i64 0) := hR6.cell 0 rfl
  have r1 : w6.cell? ⟨w.heap.size + 1, 1, none⟩ = some (.int .i64 0) := hR6.cell 1 rfl
  have f0 := hR6.frozen 0
  have f1 := hR6.frozen 1
  obtain ⟨q, hq⟩ : ∃ q, binE P t h = q := ⟨_, rfl⟩
  have HQ := Lib.hid hq
  rw [hq]
  clear hq
  by_cases h9 : q = 0
  · subst h9
    have hlk := (hT6.look t).1
    obtain ⟨x, hx⟩ : ∃ x, getH T t = x := ⟨_, rfl⟩
    rw [hx] at hlk
    have hA : binT P T t h = putR T t h := by unfold binT; rw [if_pos HQ.out]
    have hB : binH P T t h = x := by unfold binH; rw [if_pos HQ.out, hx]
    have HA := Lib.hid hA
    have HB := Lib.hid hB
    clear hx hA hB
    obtain ⟨w7, hw7⟩ : ∃ w7, w6.alloc (.cells #[.int .i64 x.s, .int .i64 x.g] 28) = w7 := ⟨_, rfl⟩
    have k7 : Below w6.heap.size w6 w7 := by rw [← hw7]; exact (Below.refl _ w6).alloc (Nat.le_refl _) _
    have hX7 : Blk w7 w6.heap.size #[.int .i64 x.s, .int .i64 x.g] 28 := by rw [← hw7]; exact Blk.new w6 _ _
    have kk7 := k6.trans (k7.mono k6.size)
    go_wp2_with fail
    clear hw7
    refine wp_onlyN ?_
    have kd := (Below.refl w7.heap.size w7).drew
    have kk8 := kk7.trans (kd.mono kk7.size)
    refine wp_region_held_drew (S := BnS w.heap.size m b h) (by kernel_rfl) (HS.out _ kk8) (fun hHeld => ?_)
    have hT8 := (hT6.step k7).step kd
    have hR8 := (hR6.below k7 hR6.lt).below kd (Nat.lt_of_lt_of_le hR6.lt k7.size)
    have hX8 := hX7.below kd hX7.lt
    have hch8 := (hch.trans (.of_below k7)).trans (.of_below kd)
    have hm6 := hT6.mp.lt
    clear hT6 hR6 hch k7 kd kk7 b0 b1 c0 r0 r1 f0 f1 hlk hX7
    change wpAnyH _ _ _ _ _ _ _ _ w7.drew
    generalize w7.drew = w8 at hT8 hR8 hX8 hch8 kk8 hHeld ⊢
    obtain ⟨w9, hrun, hM9, hTn⟩ := hT8.mp.store (P := Try.prog) Try.underlying67 Try.underlying3 t h
    unfold encH at hrun
    have hT9 := hT8.mapTo hTn hM9
    have hne1 : m ≠ w.heap.size + 1 := by omega
    have hne2 : b ≠ w.heap.size + 1 := by omega
    have hX9 : Blk w9 w6.heap.size #[.int .i64 x.s, .int .i64 x.g] 28 := hX8.turn hTn (by omega)
    have hR9 := hR8.turn hTn (Ne.symm hne1)
    have hch9 := hch8.trans (Chg.of_turn hTn)
    have hH9 := (hH.below kk8 hH.lt).turn hTn (by omega)
    have HG : BnS w.heap.size m b h w9 := ⟨hH9.cell 0 rfl, hH9.cell 1 rfl, hT9.cellm⟩
    refine wpAnyH_take (i := 0) (v := ?_) rfl (by kernel_rfl) (by kernel_rfl) (by kernel_rfl) (fun _ _ _ h => h) (Or.inl ⟨by rfl, ?_⟩) (by assumption) ?_
    rotate_left
    · (intro Y hSw; (try dsimp only at hSw); obtain ⟨hS0, hS1, hS2⟩ := hSw; go_simp; try with_reducible rfl)
    try simp only [Act.put, List.getElem_toArray, List.getElem_cons_zero, List.getElem_cons_succ, List.setIfInBounds_toArray, List.set_cons_zero, List.set_cons_succ]
    refine wpAnyH_take (i := 1) (v := ?_) rfl (by kernel_rfl) (by kernel_rfl) (by kernel_rfl) (fun _ _ _ h => h) (Or.inl ⟨by rfl, ?_⟩) (by assumption) ?_
    rotate_left
    · (intro Y hSw; (try dsimp only at hSw); obtain ⟨hS0, hS1, hS2⟩ := hSw; go_simp; try with_reducible rfl)
    try simp only [Act.put, List.getElem_toArray, List.getElem_cons_zero, List.getElem_cons_succ, List.setIfInBounds_toArray, List.set_cons_zero, List.set_cons_succ]
    refine wpAnyH_take (i := 2) (v := ?_) rfl (by kernel_rfl) (by kernel_rfl) (by kernel_rfl) (fun _ _ _ h => h) (Or.inl ⟨by rfl, ?_⟩) (by assumption) ?_
    rotate_left
    · (intro Y hSw; (try dsimp only at hSw); obtain ⟨hS0, hS1, hS2⟩ := hSw; go_simp; try with_reducible rfl)
    try simp only [Act.put, List.getElem_toArray, List.getElem_cons_zero, List.getElem_cons_succ, List.setIfInBounds_toArray, List.set_cons_zero, List.set_cons_succ]
    refine wpAnyH_take (i := 3) (v := ?_) rfl (by kernel_rfl) (by kernel_rfl) (by kernel_rfl) (fun _ _ _ h => h) (Or.inl ⟨by rfl, ?_⟩) (by assumption) ?_
    rotate_left
    · (intro Y hSw; (try dsimp only at hSw); obtain ⟨hS0, hS1, hS2⟩ := hSw; go_simp; try with_reducible rfl)
    try simp only [Act.put, List.getElem_toArray, List.getElem_cons_zero, List.getElem_cons_succ, List.setIfInBounds_toArray, List.set_cons_zero, List.set_cons_succ]
    refine wpAnyH_take (i := 4) (v := ?_) rfl (by kernel_rfl) (by kernel_rfl) (by kernel_rfl) (fun _ _ _ h => h) (Or.inl ⟨by rfl, ?_⟩) (by assumption) ?_
    rotate_left
    · (intro Y hSw; (try dsimp only at hSw); obtain ⟨hS0, hS1, hS2⟩ := hSw; go_simp; try with_reducible rfl)
    try simp only [Act.put, List.getElem_toArray, List.getElem_cons_zero, List.getElem_cons_succ, List.setIfInBounds_toArray, List.set_cons_zero, List.set_cons_succ]
    refine wpAnyH_take (i := 5) (v := ?_) rfl (by kernel_rfl) (by kernel_rfl) (by kernel_rfl) (fun _ _ _ h => h) (Or.inl ⟨by rfl, ?_⟩) (by assumption) ?_
    rotate_left
    · (intro Y hSw; (try dsimp only at hSw); obtain ⟨hS0, hS1, hS2⟩ := hSw; go_simp; try with_reducible rfl)
    try simp only [Act.put, List.getElem_toArray, List.getElem_cons_zero, List.getElem_cons_succ, List.setIfInBounds_toArray, List.set_cons_zero, List.set_cons_succ]
    refine wpAnyH_ready (rs := [6]) (by kernel_rfl) (by simp) ?_
    refine AllReadyH.cons rfl (fun K hK => ?_) AllReadyH.nil
    go_simp
    refine hK.out _ _ (HG) (fun hHeld => ?_)
    clear hK K
    try simp only [Act.put, List.getElem_toArray, List.getElem_cons_zero, List.getElem_cons_succ, List.setIfInBounds_toArray, List.set_cons_zero, List.set_cons_succ]
    refine wpAnyH_done (by kernel_rfl) ?_ _
    rw [onlyN_normal]
    have x0 : w9.cell? ⟨w6.heap.size, 0, none⟩ = some (.int .i64 x.s) := hX9.cell 0 rfl
    have x1 : w9.cell? ⟨w6.heap.size, 1, none⟩ = some (.int .i64 x.g) := hX9.cell 1 rfl
    have s0 : w9.cell? ⟨w.heap.size + 1, 0, none⟩ = some (.int .i64 0) := hR9.cell 0 rfl
    have s1 : w9.cell? ⟨w.heap.size + 1, 1, none⟩ = some (.int .i64 0) := hR9.cell 1 rfl
    have g0 := hR9.frozen 0
    have g1 := hR9.frozen 1
    clear hrun hT8 hR8 hX8 hch8 hHeld
    go_wp2_with fail
    exact ret_h2 rfl (w.heap.size + 1) rfl (hR9.set2 _ _) rfl rfl ⟨by rw [HB.out, HQ.out]; rfl, by rw [HA.out]; exact hT9.set2 _ _ hne2 hne1, hch9.set2 _ _ _ (by omega)⟩
  · have hA : binT P T t h = T := by unfold binT; rw [if_neg (by rw [HQ.out]; exact h9)]
    have hB : binH P T t h = ⟨0, 0⟩ := by unfold binH; rw [if_neg (by rw [HQ.out]; exact h9)]
    have HA := Lib.hid hA
    have HB := Lib.hid hB
    clear hA hB
    go_wp2_with fail
    exact ret_h2 rfl (w.heap.size + 1) rfl (hR6.set2 _ _) rfl rfl ⟨by rw [HB.out, HQ.out]; rfl, by rw [HA.out]; exact hT6.set2 _ _ (by omega) (by omega), hch.set2 _ _ _ (by omega)⟩
end Go.Proofs.Ytchknegenaoliaa
