/-
  Package seal: heads and tails; the reference's. Conditions: the bounds of the kinds.
-/
import Derived.Test.YtackenlfnecanaaSealB
import Derived.BigRegion
import Derived.Deep.RegionHeld
namespace Go.Proofs.Ytackenlfnecanaa
open Go.RowKit
set_option maxHeartbeats 1000000
set_option maxRecDepth 4000

/-- What comes of a tag, be it one that may be or not. -/
def SealRes (W : World) (base : Nat) (c s : Int) (l : List Int) (v : Value) (e0 : Int) : Prop :=
  (rightI c s = true → e0 = 0 ∧ W.ownsRow base 5 1 v 16 (intVals .u8 l)) ∧ (rightI c s = false → e0 = 2 ∧ v = .slice none 0 0)
theorem SealRes.weaken {W : World} {base base' : Nat} {c s : Int} {l : List Int} {v : Value} {e0 : Int} (h : SealRes W base c s l v e0) (hb : base' ≤ base) : SealRes W base' c s l v e0 :=
  ⟨fun hr => ⟨(h.1 hr).1, owns_weaken (h.1 hr).2 hb⟩, h.2⟩
theorem made_ok (b c s n : Int) (p : Nat) (hn : 0 ≤ n) (hn' : n < 4294967296) (w : World) (hp : w.cell? ⟨p, 0, none⟩ = some (.int .u64 b)) :
    Calls Try.prog 19 #[.agg #[.int .i64 c, .int .i64 s, .int .u32 n], .int .i64 (checkI c s), .func (.func 33) #[] #[.pointer (some ⟨p, 0, none⟩)]] w fun e w' =>
      ∃ v e0, e = .returned (.tuple #[v, .int .i64 e0]) ∧ SealRes w' w.heap.size c s (sealB b (wordI c s n)) v e0 ∧ Below w.heap.size w w' := by
  cases hr : rightI c s
  · rw [checkI_no c s hr]
    refine (made_no c s n 2 (by decide) _ w).mono ?_
    rintro e w1 ⟨rfl, h1⟩
    exact ⟨_, _, rfl, ⟨(by rw [hr]; intro h; cases h), fun _ => ⟨rfl, rfl⟩⟩, h1⟩
  · rw [checkI_yes c s hr]
    refine (made_yes b c s n p hr hn hn' w hp).mono ?_
    rintro e w1 ⟨v, rfl, ho, h1⟩
    exact ⟨_, _, rfl, ⟨fun _ => ⟨rfl, ho⟩, (by rw [hr]; intro h; cases h)⟩, h1⟩
structure TagAt (w0 : World) (b : Nat) (c s n : Int) (Y : World) : Prop where
  bel : Below w0.heap.size w0 Y
  c0 : Y.cell? ⟨b, 0, none⟩ = some (.int .i64 c)
  c1 : Y.cell? ⟨b, 1, none⟩ = some (.int .i64 s)
  c2 : Y.cell? ⟨b, 2, none⟩ = some (.int .u32 n)
theorem TagAt.of {w0 Y : World} {b : Nat} {c s n : Int} (h : Blk w0 b #[.int .i64 c, .int .i64 s, .int .u32 n] 27) (hb : Below w0.heap.size w0 Y) : TagAt w0 b c s n Y :=
  ⟨hb, (h.below hb h.lt).cell 0 rfl, (h.below hb h.lt).cell 1 rfl, (h.below hb h.lt).cell 2 rfl⟩
theorem Head_ok (key at_ c s n : Int) (ha : 0 ≤ at_) (ha' : at_ < 4294967296) (hn : 0 ≤ n) (hn' : n < 4294967296) (w : World) :
    Calls Try.prog 7 #[.int .u64 key, .int .u32 at_, .agg #[.int .i64 c, .int .i64 s, .int .u32 n]] w fun e w' =>
      ∃ v e0, e = .returned (.tuple #[v, .int .i64 e0]) ∧ SealRes w' w.heap.size c s (sealB (foldI [key, at_]) (wordI c s n)) v e0 ∧ Below w.heap.size w w' := by
  obtain ⟨w0, hw0⟩ : ∃ w0, w.alloc (.cells #[.int .i64 c, .int .i64 s, .int .u32 n] 27) = w0 := ⟨_, rfl⟩
  have hX : Blk w0 w.heap.size #[.int .i64 c, .int .i64 s, .int .u32 n] 27 := by rw [← hw0]; exact Blk.new w _ _
  have hw : Below w.heap.size w w0 := by rw [← hw0]; exact (Below.refl _ w).alloc (Nat.le_refl _) _
  have hwr : IntKind.u64.wrap at_ = at_ := wraps_u64' _ ha (by omega)
  go_enter Try.func7, Try.ntmps7
  go_wp2_with fail
  clear hw0
  refine wp_region_held_drew (S := TagAt w0 w.heap.size c s n) (by kernel_rfl) (TagAt.of hX (Below.refl _ w0).drew) (fun hHeld => ?_)
  refine wpAnyH_take (i := 0) (v := ?_) rfl (by kernel_rfl) (by kernel_rfl) (by kernel_rfl) (fun _ _ _ h => h) (Or.inl ⟨by rfl, ?_⟩) (by assumption) ?_
  rotate_left
  · (intro Y hSw; (try dsimp only at hSw); obtain ⟨hS1, hS2, hS3, hS4⟩ := hSw; go_simp; try with_reducible rfl)
  try simp only [Act.put, List.getElem_toArray, List.getElem_cons_zero, List.getElem_cons_succ, List.setIfInBounds_toArray, List.set_cons_zero, List.set_cons_succ]
  refine wpAnyH_take (i := 1) (v := ?_) rfl (by kernel_rfl) (by kernel_rfl) (by kernel_rfl) (fun _ _ _ h => h) (Or.inl ⟨by rfl, ?_⟩) (by assumption) ?_
  rotate_left
  · (intro Y hSw; (try dsimp only at hSw); obtain ⟨hS1, hS2, hS3, hS4⟩ := hSw; go_simp; try with_reducible rfl)
  try simp only [Act.put, List.getElem_toArray, List.getElem_cons_zero, List.getElem_cons_succ, List.setIfInBounds_toArray, List.set_cons_zero, List.set_cons_succ]
  refine wpAnyH_take (i := 2) (v := ?_) rfl (by kernel_rfl) (by kernel_rfl) (by kernel_rfl) (fun _ _ _ h => h) (Or.inl ⟨by rfl, ?_⟩) (by assumption) ?_
  rotate_left
  · (intro Y hSw; (try dsimp only at hSw); obtain ⟨hS1, hS2, hS3, hS4⟩ := hSw; go_simp; try with_reducible rfl)
  try simp only [Act.put, List.getElem_toArray, List.getElem_cons_zero, List.getElem_cons_succ, List.setIfInBounds_toArray, List.set_cons_zero, List.set_cons_succ]
  refine wpAnyH_take (i := 4) (v := ?_) rfl (by kernel_rfl) (by kernel_rfl) (by kernel_rfl) (fun _ _ _ h => h) (Or.inl ⟨by rfl, ?_⟩) (by assumption) ?_
  rotate_left
  · (intro Y hSw; (try dsimp only at hSw); obtain ⟨hS1, hS2, hS3, hS4⟩ := hSw; go_simp; try with_reducible rfl)
  try simp only [Act.put, List.getElem_toArray, List.getElem_cons_zero, List.getElem_cons_succ, List.setIfInBounds_toArray, List.set_cons_zero, List.set_cons_succ]
  refine wpAnyH_take (i := 5) (v := ?_) rfl (by kernel_rfl) (by kernel_rfl) (by kernel_rfl) (fun _ _ _ h => h) (Or.inl ⟨by rfl, ?_⟩) (by assumption) ?_
  rotate_left
  · (intro Y hSw; (try dsimp only at hSw); obtain ⟨hS1, hS2, hS3, hS4⟩ := hSw; go_simp; try with_reducible rfl)
  try simp only [Act.put, List.getElem_toArray, List.getElem_cons_zero, List.getElem_cons_succ, List.setIfInBounds_toArray, List.set_cons_zero, List.set_cons_succ]
  refine wpAnyH_take (i := 6) (v := ?_) rfl (by kernel_rfl) (by kernel_rfl) (by kernel_rfl) (fun _ _ _ h => h) (Or.inl ⟨by rfl, ?_⟩) (by assumption) ?_
  rotate_left
  · (intro Y hSw; (try dsimp only at hSw); obtain ⟨hS1, hS2, hS3, hS4⟩ := hSw; go_simp; try with_reducible rfl)
  try simp only [Act.put, List.getElem_toArray, List.getElem_cons_zero, List.getElem_cons_succ, List.setIfInBounds_toArray, List.set_cons_zero, List.set_cons_succ]
  refine wpAnyH_ready (rs := [3, 7]) (by kernel_rfl) (by simp) ?_
  refine AllReadyH.cons rfl (fun K hK => ?_) (AllReadyH.cons rfl (fun K hK => ?_) AllReadyH.nil)
  · go_simp
    refine (Check_calls c s n _).mono ?_; rintro e w1 ⟨rfl, h1⟩
    have k1 := (Below.refl w0.heap.size w0).drew.trans (h1.mono (Nat.le_refl _))
    have z1 := k1.size
    go_wp2_with fail
    refine hK.out _ _ (TagAt.of hX k1) (fun hHeld => ?_)
    clear hK K
    try simp only [Act.put, List.getElem_toArray, List.getElem_cons_zero, List.getElem_cons_succ, List.setIfInBounds_toArray, List.set_cons_zero, List.set_cons_succ]
    refine wpAnyH_ready (rs := [7]) (by kernel_rfl) (by simp) ?_
    refine AllReadyH.cons rfl (fun K hK => ?_) AllReadyH.nil
    go_simp
    have k2 := k1.alloc z1 (.cells #[.int .u64 key, .int .u64 at_] 22)
    have hr2 : RowAt (w1.alloc (.cells #[.int .u64 key, .int .u64 at_] 22)).heap.size (w1.alloc (.cells #[.int .u64 key, .int .u64 at_] 22)) (.slice (some ⟨w1.heap.size, 0, none⟩) 2 2) [key, at_].length (intVals .u64 [key, at_]) := RowAt.lit w1 #[.int .u64 key, .int .u64 at_] 22 2 _ (by simp)
    refine hK.out _ _ (TagAt.of hX k2) (fun hHeld => ?_)
    clear hK K
    try simp only [Act.put, List.getElem_toArray, List.getElem_cons_zero, List.getElem_cons_succ, List.setIfInBounds_toArray, List.set_cons_zero, List.set_cons_succ]
    refine wpAnyH_ready (rs := [8]) (by kernel_rfl) (by simp) ?_
    refine AllReadyH.cons rfl (fun K hK => ?_) AllReadyH.nil
    go_simp
    refine (sealer_calls _ [key, at_] _ _ (Nat.le_refl _) (by simp) hr2).mono ?_; rintro e w3 ⟨p, rfl, hp, h3⟩
    have k3 := k2.trans (h3.mono k2.size)
    go_wp2_with fail
    refine hK.out _ _ (TagAt.of hX k3) (fun hHeld => ?_)
    clear hK K
    try simp only [Act.put, List.getElem_toArray, List.getElem_cons_zero, List.getElem_cons_succ, List.setIfInBounds_toArray, List.set_cons_zero, List.set_cons_succ]
    refine wpAnyH_ready (rs := [9]) (by kernel_rfl) (by simp) ?_
    refine AllReadyH.cons rfl (fun K hK => ?_) AllReadyH.nil
    go_simp
    refine (made_ok _ c s n p hn hn' _ hp).mono ?_; rintro e w4 ⟨v, e0, rfl, hr4, h4⟩
    have k4 := k3.trans (h4.mono k3.size)
    have z3 := k3.size
    go_wp2_with fail
    refine hK.out _ _ (TagAt.of hX k4) (fun hHeld => ?_)
    clear hK K
    try simp only [Act.put, List.getElem_toArray, List.getElem_cons_zero, List.getElem_cons_succ, List.setIfInBounds_toArray, List.set_cons_zero, List.set_cons_succ]
    refine wpAnyH_take (i := 10) (v := ?_) rfl (by kernel_rfl) (by kernel_rfl) (by kernel_rfl) (fun _ _ _ h => h) (Or.inl ⟨by rfl, ?_⟩) (by assumption) ?_
    rotate_left
    · (intro Y hSw; (try dsimp only at hSw); obtain ⟨hS1, hS2, hS3, hS4⟩ := hSw; go_simp; try with_reducible rfl)
    try simp only [Act.put, List.getElem_toArray, List.getElem_cons_zero, List.getElem_cons_succ, List.setIfInBounds_toArray, List.set_cons_zero, List.set_cons_succ]
    refine wpAnyH_take (i := 11) (v := ?_) rfl (by kernel_rfl) (by kernel_rfl) (by kernel_rfl) (fun _ _ _ h => h) (Or.inl ⟨by rfl, ?_⟩) (by assumption) ?_
    rotate_left
    · (intro Y hSw; (try dsimp only at hSw); obtain ⟨hS1, hS2, hS3, hS4⟩ := hSw; go_simp; try with_reducible rfl)
    try simp only [Act.put, List.getElem_toArray, List.getElem_cons_zero, List.getElem_cons_succ, List.setIfInBounds_toArray, List.set_cons_zero, List.set_cons_succ]
    refine wpAnyH_take (i := 12) (v := ?_) rfl (by kernel_rfl) (by kernel_rfl) (by kernel_rfl) (fun _ _ _ h => h) (Or.inl ⟨by rfl, ?_⟩) (by assumption) ?_
    rotate_left
    · (intro Y hSw; (try dsimp only at hSw); obtain ⟨hS1, hS2, hS3, hS4⟩ := hSw; go_simp; try with_reducible rfl)
    try simp only [Act.put, List.getElem_toArray, List.getElem_cons_zero, List.getElem_cons_succ, List.setIfInBounds_toArray, List.set_cons_zero, List.set_cons_succ]
    refine wpAnyH_take (i := 13) (v := ?_) rfl (by kernel_rfl) (by kernel_rfl) (by kernel_rfl) (fun _ _ _ h => h) (Or.inl ⟨by rfl, ?_⟩) (by assumption) ?_
    rotate_left
    · (intro Y hSw; (try dsimp only at hSw); obtain ⟨hS1, hS2, hS3, hS4⟩ := hSw; go_simp; try with_reducible rfl)
    try simp only [Act.put, List.getElem_toArray, List.getElem_cons_zero, List.getElem_cons_succ, List.setIfInBounds_toArray, List.set_cons_zero, List.set_cons_succ]
    refine wpAnyH_done (by kernel_rfl) ?_ _
    go_wp2_with fail
    go_ret2
    exact ⟨v, e0, rfl, hr4.weaken (by have := hw.size; omega), hw.trans (k4.mono hw.size)⟩
  · go_simp
    have k2 := (Below.refl w0.heap.size w0).alloc (Nat.le_refl _) (.cells #[.int .u64 key, .int .u64 at_] 22)
    have k1 : Below w0.heap.size w0 (w0.alloc (.cells #[.int .u64 key, .int .u64 at_] 22)).drew := k2.drew
    have hr1 : RowAt (w0.alloc (.cells #[.int .u64 key, .int .u64 at_] 22)).drew.heap.size (w0.alloc (.cells #[.int .u64 key, .int .u64 at_] 22)).drew (.slice (some ⟨w0.heap.size, 0, none⟩) 2 2) [key, at_].length (intVals .u64 [key, at_]) := (RowAt.lit w0 #[.int .u64 key, .int .u64 at_] 22 2 _ (by simp)).below (Below.refl _ _).drew (Nat.le_refl _)
    clear k2
    refine hK.out _ _ (TagAt.of hX k1) (fun hHeld => ?_)
    clear hK K
    try simp only [Act.put, List.getElem_toArray, List.getElem_cons_zero, List.getElem_cons_succ, List.setIfInBounds_toArray, List.set_cons_zero, List.set_cons_succ]
    generalize hY : (w0.alloc (.cells #[.int .u64 key, .int .u64 at_] 22)).drew = w1 at k1 hr1 hHeld ⊢
    have z1 := k1.size
    clear hY
    refine wpAnyH_ready (rs := [3]) (by kernel_rfl) (by simp) ?_
    refine AllReadyH.cons rfl (fun K hK => ?_) AllReadyH.nil
    go_simp
    refine (Check_calls c s n _).mono ?_; rintro e w2 ⟨rfl, h2⟩
    have k2 := k1.trans (h2.mono z1)
    have hr2 := hr1.below h2 (Nat.le_refl _)
    have z2 := h2.size
    go_wp2_with fail
    refine hK.out _ _ (TagAt.of hX k2) (fun hHeld => ?_)
    clear hK K
    try simp only [Act.put, List.getElem_toArray, List.getElem_cons_zero, List.getElem_cons_succ, List.setIfInBounds_toArray, List.set_cons_zero, List.set_cons_succ]
    refine wpAnyH_ready (rs := [8]) (by kernel_rfl) (by simp) ?_
    refine AllReadyH.cons rfl (fun K hK => ?_) AllReadyH.nil
    go_simp
    refine (sealer_calls _ [key, at_] _ _ z2 (by simp) hr2).mono ?_; rintro e w3 ⟨p, rfl, hp, h3⟩
    have k3 := k2.trans (h3.mono k2.size)
    go_wp2_with fail
    refine hK.out _ _ (TagAt.of hX k3) (fun hHeld => ?_)
    clear hK K
    try simp only [Act.put, List.getElem_toArray, List.getElem_cons_zero, List.getElem_cons_succ, List.setIfInBounds_toArray, List.set_cons_zero, List.set_cons_succ]
    refine wpAnyH_ready (rs := [9]) (by kernel_rfl) (by simp) ?_
    refine AllReadyH.cons rfl (fun K hK => ?_) AllReadyH.nil
    go_simp
    refine (made_ok _ c s n p hn hn' _ hp).mono ?_; rintro e w4 ⟨v, e0, rfl, hr4, h4⟩
    have k4 := k3.trans (h4.mono k3.size)
    have z3 := k3.size
    go_wp2_with fail
    refine hK.out _ _ (TagAt.of hX k4) (fun hHeld => ?_)
    clear hK K
    try simp only [Act.put, List.getElem_toArray, List.getElem_cons_zero, List.getElem_cons_succ, List.setIfInBounds_toArray, List.set_cons_zero, List.set_cons_succ]
    refine wpAnyH_take (i := 10) (v := ?_) rfl (by kernel_rfl) (by kernel_rfl) (by kernel_rfl) (fun _ _ _ h => h) (Or.inl ⟨by rfl, ?_⟩) (by assumption) ?_
    rotate_left
    · (intro Y hSw; (try dsimp only at hSw); obtain ⟨hS1, hS2, hS3, hS4⟩ := hSw; go_simp; try with_reducible rfl)
    try simp only [Act.put, List.getElem_toArray, List.getElem_cons_zero, List.getElem_cons_succ, List.setIfInBounds_toArray, List.set_cons_zero, List.set_cons_succ]
    refine wpAnyH_take (i := 11) (v := ?_) rfl (by kernel_rfl) (by kernel_rfl) (by kernel_rfl) (fun _ _ _ h => h) (Or.inl ⟨by rfl, ?_⟩) (by assumption) ?_
    rotate_left
    · (intro Y hSw; (try dsimp only at hSw); obtain ⟨hS1, hS2, hS3, hS4⟩ := hSw; go_simp; try with_reducible rfl)
    try simp only [Act.put, List.getElem_toArray, List.getElem_cons_zero, List.getElem_cons_succ, List.setIfInBounds_toArray, List.set_cons_zero, List.set_cons_succ]
    refine wpAnyH_take (i := 12) (v := ?_) rfl (by kernel_rfl) (by kernel_rfl) (by kernel_rfl) (fun _ _ _ h => h) (Or.inl ⟨by rfl, ?_⟩) (by assumption) ?_
    rotate_left
    · (intro Y hSw; (try dsimp only at hSw); obtain ⟨hS1, hS2, hS3, hS4⟩ := hSw; go_simp; try with_reducible rfl)
    try simp only [Act.put, List.getElem_toArray, List.getElem_cons_zero, List.getElem_cons_succ, List.setIfInBounds_toArray, List.set_cons_zero, List.set_cons_succ]
    refine wpAnyH_take (i := 13) (v := ?_) rfl (by kernel_rfl) (by kernel_rfl) (by kernel_rfl) (fun _ _ _ h => h) (Or.inl ⟨by rfl, ?_⟩) (by assumption) ?_
    rotate_left
    · (intro Y hSw; (try dsimp only at hSw); obtain ⟨hS1, hS2, hS3, hS4⟩ := hSw; go_simp; try with_reducible rfl)
    try simp only [Act.put, List.getElem_toArray, List.getElem_cons_zero, List.getElem_cons_succ, List.setIfInBounds_toArray, List.set_cons_zero, List.set_cons_succ]
    refine wpAnyH_done (by kernel_rfl) ?_ _
    go_wp2_with fail
    go_ret2
    exact ⟨v, e0, rfl, hr4.weaken (by have := hw.size; omega), hw.trans (k4.mono hw.size)⟩
theorem Tail_ok (key at_ c s n : Int) (ha : 0 ≤ at_) (ha' : at_ < 4294967296) (hn : 0 ≤ n) (hn' : n < 4294967296) (w : World) :
    Calls Try.prog 8 #[.int .u64 key, .int .u32 at_, .agg #[.int .i64 c, .int .i64 s, .int .u32 n]] w fun e w' =>
      ∃ v e0, e = .returned (.tuple #[v, .int .i64 e0]) ∧ SealRes w' w.heap.size c s (sealB (foldI [at_, key]) (wordI c s n)) v e0 ∧ Below w.heap.size w w' := by
  obtain ⟨w0, hw0⟩ : ∃ w0, w.alloc (.cells #[.int .i64 c, .int .i64 s, .int .u32 n] 27) = w0 := ⟨_, rfl⟩
  have hX : Blk w0 w.heap.size #[.int .i64 c, .int .i64 s, .int .u32 n] 27 := by rw [← hw0]; exact Blk.new w _ _
  have hw : Below w.heap.size w w0 := by rw [← hw0]; exact (Below.refl _ w).alloc (Nat.le_refl _) _
  have hwr : IntKind.u64.wrap at_ = at_ := wraps_u64' _ ha (by omega)
  go_enter Try.func8, Try.ntmps8
  go_wp2_with fail
  clear hw0
  refine wp_region_held_drew (S := TagAt w0 w.heap.size c s n) (by kernel_rfl) (TagAt.of hX (Below.refl _ w0).drew) (fun hHeld => ?_)
  refine wpAnyH_take (i := 0) (v := ?_) rfl (by kernel_rfl) (by kernel_rfl) (by kernel_rfl) (fun _ _ _ h => h) (Or.inl ⟨by rfl, ?_⟩) (by assumption) ?_
  rotate_left
  · (intro Y hSw; (try dsimp only at hSw); obtain ⟨hS1, hS2, hS3, hS4⟩ := hSw; go_simp; try with_reducible rfl)
  try simp only [Act.put, List.getElem_toArray, List.getElem_cons_zero, List.getElem_cons_succ, List.setIfInBounds_toArray, List.set_cons_zero, List.set_cons_succ]
  refine wpAnyH_take (i := 1) (v := ?_) rfl (by kernel_rfl) (by kernel_rfl) (by kernel_rfl) (fun _ _ _ h => h) (Or.inl ⟨by rfl, ?_⟩) (by assumption) ?_
  rotate_left
  · (intro Y hSw; (try dsimp only at hSw); obtain ⟨hS1, hS2, hS3, hS4⟩ := hSw; go_simp; try with_reducible rfl)
  try simp only [Act.put, List.getElem_toArray, List.getElem_cons_zero, List.getElem_cons_succ, List.setIfInBounds_toArray, List.set_cons_zero, List.set_cons_succ]
  refine wpAnyH_take (i := 2) (v := ?_) rfl (by kernel_rfl) (by kernel_rfl) (by kernel_rfl) (fun _ _ _ h => h) (Or.inl ⟨by rfl, ?_⟩) (by assumption) ?_
  rotate_left
  · (intro Y hSw; (try dsimp only at hSw); obtain ⟨hS1, hS2, hS3, hS4⟩ := hSw; go_simp; try with_reducible rfl)
  try simp only [Act.put, List.getElem_toArray, List.getElem_cons_zero, List.getElem_cons_succ, List.setIfInBounds_toArray, List.set_cons_zero, List.set_cons_succ]
  refine wpAnyH_take (i := 4) (v := ?_) rfl (by kernel_rfl) (by kernel_rfl) (by kernel_rfl) (fun _ _ _ h => h) (Or.inl ⟨by rfl, ?_⟩) (by assumption) ?_
  rotate_left
  · (intro Y hSw; (try dsimp only at hSw); obtain ⟨hS1, hS2, hS3, hS4⟩ := hSw; go_simp; try with_reducible rfl)
  try simp only [Act.put, List.getElem_toArray, List.getElem_cons_zero, List.getElem_cons_succ, List.setIfInBounds_toArray, List.set_cons_zero, List.set_cons_succ]
  refine wpAnyH_take (i := 5) (v := ?_) rfl (by kernel_rfl) (by kernel_rfl) (by kernel_rfl) (fun _ _ _ h => h) (Or.inl ⟨by rfl, ?_⟩) (by assumption) ?_
  rotate_left
  · (intro Y hSw; (try dsimp only at hSw); obtain ⟨hS1, hS2, hS3, hS4⟩ := hSw; go_simp; try with_reducible rfl)
  try simp only [Act.put, List.getElem_toArray, List.getElem_cons_zero, List.getElem_cons_succ, List.setIfInBounds_toArray, List.set_cons_zero, List.set_cons_succ]
  refine wpAnyH_take (i := 6) (v := ?_) rfl (by kernel_rfl) (by kernel_rfl) (by kernel_rfl) (fun _ _ _ h => h) (Or.inl ⟨by rfl, ?_⟩) (by assumption) ?_
  rotate_left
  · (intro Y hSw; (try dsimp only at hSw); obtain ⟨hS1, hS2, hS3, hS4⟩ := hSw; go_simp; try with_reducible rfl)
  try simp only [Act.put, List.getElem_toArray, List.getElem_cons_zero, List.getElem_cons_succ, List.setIfInBounds_toArray, List.set_cons_zero, List.set_cons_succ]
  refine wpAnyH_ready (rs := [3, 7]) (by kernel_rfl) (by simp) ?_
  refine AllReadyH.cons rfl (fun K hK => ?_) (AllReadyH.cons rfl (fun K hK => ?_) AllReadyH.nil)
  · go_simp
    refine (Check_calls c s n _).mono ?_; rintro e w1 ⟨rfl, h1⟩
    have k1 := (Below.refl w0.heap.size w0).drew.trans (h1.mono (Nat.le_refl _))
    have z1 := k1.size
    go_wp2_with fail
    refine hK.out _ _ (TagAt.of hX k1) (fun hHeld => ?_)
    clear hK K
    try simp only [Act.put, List.getElem_toArray, List.getElem_cons_zero, List.getElem_cons_succ, List.setIfInBounds_toArray, List.set_cons_zero, List.set_cons_succ]
    refine wpAnyH_ready (rs := [7]) (by kernel_rfl) (by simp) ?_
    refine AllReadyH.cons rfl (fun K hK => ?_) AllReadyH.nil
    go_simp
    have k2 := k1.alloc z1 (.cells #[.int .u64 at_, .int .u64 key] 22)
    have hr2 : RowAt (w1.alloc (.cells #[.int .u64 at_, .int .u64 key] 22)).heap.size (w1.alloc (.cells #[.int .u64 at_, .int .u64 key] 22)) (.slice (some ⟨w1.heap.size, 0, none⟩) 2 2) [at_, key].length (intVals .u64 [at_, key]) := RowAt.lit w1 #[.int .u64 at_, .int .u64 key] 22 2 _ (by simp)
    refine hK.out _ _ (TagAt.of hX k2) (fun hHeld => ?_)
    clear hK K
    try simp only [Act.put, List.getElem_toArray, List.getElem_cons_zero, List.getElem_cons_succ, List.setIfInBounds_toArray, List.set_cons_zero, List.set_cons_succ]
    refine wpAnyH_ready (rs := [8]) (by kernel_rfl) (by simp) ?_
    refine AllReadyH.cons rfl (fun K hK => ?_) AllReadyH.nil
    go_simp
    refine (sealer_calls _ [at_, key] _ _ (Nat.le_refl _) (by simp) hr2).mono ?_; rintro e w3 ⟨p, rfl, hp, h3⟩
    have k3 := k2.trans (h3.mono k2.size)
    go_wp2_with fail
    refine hK.out _ _ (TagAt.of hX k3) (fun hHeld => ?_)
    clear hK K
    try simp only [Act.put, List.getElem_toArray, List.getElem_cons_zero, List.getElem_cons_succ, List.setIfInBounds_toArray, List.set_cons_zero, List.set_cons_succ]
    refine wpAnyH_ready (rs := [9]) (by kernel_rfl) (by simp) ?_
    refine AllReadyH.cons rfl (fun K hK => ?_) AllReadyH.nil
    go_simp
    refine (made_ok _ c s n p hn hn' _ hp).mono ?_; rintro e w4 ⟨v, e0, rfl, hr4, h4⟩
    have k4 := k3.trans (h4.mono k3.size)
    have z3 := k3.size
    go_wp2_with fail
    refine hK.out _ _ (TagAt.of hX k4) (fun hHeld => ?_)
    clear hK K
    try simp only [Act.put, List.getElem_toArray, List.getElem_cons_zero, List.getElem_cons_succ, List.setIfInBounds_toArray, List.set_cons_zero, List.set_cons_succ]
    refine wpAnyH_take (i := 10) (v := ?_) rfl (by kernel_rfl) (by kernel_rfl) (by kernel_rfl) (fun _ _ _ h => h) (Or.inl ⟨by rfl, ?_⟩) (by assumption) ?_
    rotate_left
    · (intro Y hSw; (try dsimp only at hSw); obtain ⟨hS1, hS2, hS3, hS4⟩ := hSw; go_simp; try with_reducible rfl)
    try simp only [Act.put, List.getElem_toArray, List.getElem_cons_zero, List.getElem_cons_succ, List.setIfInBounds_toArray, List.set_cons_zero, List.set_cons_succ]
    refine wpAnyH_take (i := 11) (v := ?_) rfl (by kernel_rfl) (by kernel_rfl) (by kernel_rfl) (fun _ _ _ h => h) (Or.inl ⟨by rfl, ?_⟩) (by assumption) ?_
    rotate_left
    · (intro Y hSw; (try dsimp only at hSw); obtain ⟨hS1, hS2, hS3, hS4⟩ := hSw; go_simp; try with_reducible rfl)
    try simp only [Act.put, List.getElem_toArray, List.getElem_cons_zero, List.getElem_cons_succ, List.setIfInBounds_toArray, List.set_cons_zero, List.set_cons_succ]
    refine wpAnyH_take (i := 12) (v := ?_) rfl (by kernel_rfl) (by kernel_rfl) (by kernel_rfl) (fun _ _ _ h => h) (Or.inl ⟨by rfl, ?_⟩) (by assumption) ?_
    rotate_left
    · (intro Y hSw; (try dsimp only at hSw); obtain ⟨hS1, hS2, hS3, hS4⟩ := hSw; go_simp; try with_reducible rfl)
    try simp only [Act.put, List.getElem_toArray, List.getElem_cons_zero, List.getElem_cons_succ, List.setIfInBounds_toArray, List.set_cons_zero, List.set_cons_succ]
    refine wpAnyH_take (i := 13) (v := ?_) rfl (by kernel_rfl) (by kernel_rfl) (by kernel_rfl) (fun _ _ _ h => h) (Or.inl ⟨by rfl, ?_⟩) (by assumption) ?_
    rotate_left
    · (intro Y hSw; (try dsimp only at hSw); obtain ⟨hS1, hS2, hS3, hS4⟩ := hSw; go_simp; try with_reducible rfl)
    try simp only [Act.put, List.getElem_toArray, List.getElem_cons_zero, List.getElem_cons_succ, List.setIfInBounds_toArray, List.set_cons_zero, List.set_cons_succ]
    refine wpAnyH_done (by kernel_rfl) ?_ _
    go_wp2_with fail
    go_ret2
    exact ⟨v, e0, rfl, hr4.weaken (by have := hw.size; omega), hw.trans (k4.mono hw.size)⟩
  · go_simp
    have k2 := (Below.refl w0.heap.size w0).alloc (Nat.le_refl _) (.cells #[.int .u64 at_, .int .u64 key] 22)
    have k1 : Below w0.heap.size w0 (w0.alloc (.cells #[.int .u64 at_, .int .u64 key] 22)).drew := k2.drew
    have hr1 : RowAt (w0.alloc (.cells #[.int .u64 at_, .int .u64 key] 22)).drew.heap.size (w0.alloc (.cells #[.int .u64 at_, .int .u64 key] 22)).drew (.slice (some ⟨w0.heap.size, 0, none⟩) 2 2) [at_, key].length (intVals .u64 [at_, key]) := (RowAt.lit w0 #[.int .u64 at_, .int .u64 key] 22 2 _ (by simp)).below (Below.refl _ _).drew (Nat.le_refl _)
    clear k2
    refine hK.out _ _ (TagAt.of hX k1) (fun hHeld => ?_)
    clear hK K
    try simp only [Act.put, List.getElem_toArray, List.getElem_cons_zero, List.getElem_cons_succ, List.setIfInBounds_toArray, List.set_cons_zero, List.set_cons_succ]
    generalize hY : (w0.alloc (.cells #[.int .u64 at_, .int .u64 key] 22)).drew = w1 at k1 hr1 hHeld ⊢
    have z1 := k1.size
    clear hY
    refine wpAnyH_ready (rs := [3]) (by kernel_rfl) (by simp) ?_
    refine AllReadyH.cons rfl (fun K hK => ?_) AllReadyH.nil
    go_simp
    refine (Check_calls c s n _).mono ?_; rintro e w2 ⟨rfl, h2⟩
    have k2 := k1.trans (h2.mono z1)
    have hr2 := hr1.below h2 (Nat.le_refl _)
    have z2 := h2.size
    go_wp2_with fail
    refine hK.out _ _ (TagAt.of hX k2) (fun hHeld => ?_)
    clear hK K
    try simp only [Act.put, List.getElem_toArray, List.getElem_cons_zero, List.getElem_cons_succ, List.setIfInBounds_toArray, List.set_cons_zero, List.set_cons_succ]
    refine wpAnyH_ready (rs := [8]) (by kernel_rfl) (by simp) ?_
    refine AllReadyH.cons rfl (fun K hK => ?_) AllReadyH.nil
    go_simp
    refine (sealer_calls _ [at_, key] _ _ z2 (by simp) hr2).mono ?_; rintro e w3 ⟨p, rfl, hp, h3⟩
    have k3 := k2.trans (h3.mono k2.size)
    go_wp2_with fail
    refine hK.out _ _ (TagAt.of hX k3) (fun hHeld => ?_)
    clear hK K
    try simp only [Act.put, List.getElem_toArray, List.getElem_cons_zero, List.getElem_cons_succ, List.setIfInBounds_toArray, List.set_cons_zero, List.set_cons_succ]
    refine wpAnyH_ready (rs := [9]) (by kernel_rfl) (by simp) ?_
    refine AllReadyH.cons rfl (fun K hK => ?_) AllReadyH.nil
    go_simp
    refine (made_ok _ c s n p hn hn' _ hp).mono ?_; rintro e w4 ⟨v, e0, rfl, hr4, h4⟩
    have k4 := k3.trans (h4.mono k3.size)
    have z3 := k3.size
    go_wp2_with fail
    refine hK.out _ _ (TagAt.of hX k4) (fun hHeld => ?_)
    clear hK K
    try simp only [Act.put, List.getElem_toArray, List.getElem_cons_zero, List.getElem_cons_succ, List.setIfInBounds_toArray, List.set_cons_zero, List.set_cons_succ]
    refine wpAnyH_take (i := 10) (v := ?_) rfl (by kernel_rfl) (by kernel_rfl) (by kernel_rfl) (fun _ _ _ h => h) (Or.inl ⟨by rfl, ?_⟩) (by assumption) ?_
    rotate_left
    · (intro Y hSw; (try dsimp only at hSw); obtain ⟨hS1, hS2, hS3, hS4⟩ := hSw; go_simp; try with_reducible rfl)
    try simp only [Act.put, List.getElem_toArray, List.getElem_cons_zero, List.getElem_cons_succ, List.setIfInBounds_toArray, List.set_cons_zero, List.set_cons_succ]
    refine wpAnyH_take (i := 11) (v := ?_) rfl (by kernel_rfl) (by kernel_rfl) (by kernel_rfl) (fun _ _ _ h => h) (Or.inl ⟨by rfl, ?_⟩) (by assumption) ?_
    rotate_left
    · (intro Y hSw; (try dsimp only at hSw); obtain ⟨hS1, hS2, hS3, hS4⟩ := hSw; go_simp; try with_reducible rfl)
    try simp only [Act.put, List.getElem_toArray, List.getElem_cons_zero, List.getElem_cons_succ, List.setIfInBounds_toArray, List.set_cons_zero, List.set_cons_succ]
    refine wpAnyH_take (i := 12) (v := ?_) rfl (by kernel_rfl) (by kernel_rfl) (by kernel_rfl) (fun _ _ _ h => h) (Or.inl ⟨by rfl, ?_⟩) (by assumption) ?_
    rotate_left
    · (intro Y hSw; (try dsimp only at hSw); obtain ⟨hS1, hS2, hS3, hS4⟩ := hSw; go_simp; try with_reducible rfl)
    try simp only [Act.put, List.getElem_toArray, List.getElem_cons_zero, List.getElem_cons_succ, List.setIfInBounds_toArray, List.set_cons_zero, List.set_cons_succ]
    refine wpAnyH_take (i := 13) (v := ?_) rfl (by kernel_rfl) (by kernel_rfl) (by kernel_rfl) (fun _ _ _ h => h) (Or.inl ⟨by rfl, ?_⟩) (by assumption) ?_
    rotate_left
    · (intro Y hSw; (try dsimp only at hSw); obtain ⟨hS1, hS2, hS3, hS4⟩ := hSw; go_simp; try with_reducible rfl)
    try simp only [Act.put, List.getElem_toArray, List.getElem_cons_zero, List.getElem_cons_succ, List.setIfInBounds_toArray, List.set_cons_zero, List.set_cons_succ]
    refine wpAnyH_done (by kernel_rfl) ?_ _
    go_wp2_with fail
    go_ret2
    exact ⟨v, e0, rfl, hr4.weaken (by have := hw.size; omega), hw.trans (k4.mono hw.size)⟩
theorem rHead_ok (key at_ c s n : Int) (hk : 0 ≤ key) (hk' : key < 18446744073709551616) (ha : 0 ≤ at_) (ha' : at_ < 4294967296) (hr : rightI c s = true) (hn : 0 ≤ n) (hn' : n < 4294967296) (w : World) :
    Calls Try.prog 13 #[.int .u64 key, .int .u32 at_, .agg #[.int .i64 c, .int .i64 s, .int .u32 n]] w fun e w' =>
      ∃ v, e = .returned v ∧ w'.ownsRow w.heap.size 5 1 v 16 (intVals .u8 (sealB (foldI [key, at_]) (wordI c s n))) ∧ Below w.heap.size w w' := by
  obtain ⟨w0, hw0⟩ : ∃ w0, w.alloc (.cells #[.int .i64 c, .int .i64 s, .int .u32 n] 27) = w0 := ⟨_, rfl⟩
  have hX : Blk w0 w.heap.size #[.int .i64 c, .int .i64 s, .int .u32 n] 27 := by rw [← hw0]; exact Blk.new w _ _
  have hw : Below w.heap.size w w0 := by rw [← hw0]; exact (Below.refl _ w).alloc (Nat.le_refl _) _
  have hwr : IntKind.u64.wrap at_ = at_ := wraps_u64' _ ha (by omega)
  have hlw : ∀ x ∈ [key, at_], 0 ≤ x ∧ x < 18446744073709551616 := by
    intro x hx
    simp only [List.mem_cons, List.not_mem_nil, or_false] at hx
    rcases hx with rfl | rfl <;> omega
  have HW := Lib.hid hlw
  clear hlw
  go_enter Try.func13, Try.ntmps13
  go_wp2_with fail
  clear hw0
  refine wp_region_held_drew (S := TagAt w0 w.heap.size c s n) (by kernel_rfl) (TagAt.of hX (Below.refl _ w0).drew) (fun hHeld => ?_)
  refine wpAnyH_take (i := 0) (v := ?_) rfl (by kernel_rfl) (by kernel_rfl) (by kernel_rfl) (fun _ _ _ h => h) (Or.inl ⟨by rfl, ?_⟩) (by assumption) ?_
  rotate_left
  · (intro Y hSw; (try dsimp only at hSw); obtain ⟨hS1, hS2, hS3, hS4⟩ := hSw; go_simp; try with_reducible rfl)
  try simp only [Act.put, List.getElem_toArray, List.getElem_cons_zero, List.getElem_cons_succ, List.setIfInBounds_toArray, List.set_cons_zero, List.set_cons_succ]
  refine wpAnyH_take (i := 1) (v := ?_) rfl (by kernel_rfl) (by kernel_rfl) (by kernel_rfl) (fun _ _ _ h => h) (Or.inl ⟨by rfl, ?_⟩) (by assumption) ?_
  rotate_left
  · (intro Y hSw; (try dsimp only at hSw); obtain ⟨hS1, hS2, hS3, hS4⟩ := hSw; go_simp; try with_reducible rfl)
  try simp only [Act.put, List.getElem_toArray, List.getElem_cons_zero, List.getElem_cons_succ, List.setIfInBounds_toArray, List.set_cons_zero, List.set_cons_succ]
  refine wpAnyH_take (i := 2) (v := ?_) rfl (by kernel_rfl) (by kernel_rfl) (by kernel_rfl) (fun _ _ _ h => h) (Or.inl ⟨by rfl, ?_⟩) (by assumption) ?_
  rotate_left
  · (intro Y hSw; (try dsimp only at hSw); obtain ⟨hS1, hS2, hS3, hS4⟩ := hSw; go_simp; try with_reducible rfl)
  try simp only [Act.put, List.getElem_toArray, List.getElem_cons_zero, List.getElem_cons_succ, List.setIfInBounds_toArray, List.set_cons_zero, List.set_cons_succ]
  refine wpAnyH_take (i := 5) (v := ?_) rfl (by kernel_rfl) (by kernel_rfl) (by kernel_rfl) (fun _ _ _ h => h) (Or.inl ⟨by rfl, ?_⟩) (by assumption) ?_
  rotate_left
  · (intro Y hSw; (try dsimp only at hSw); obtain ⟨hS1, hS2, hS3, hS4⟩ := hSw; go_simp; try with_reducible rfl)
  try simp only [Act.put, List.getElem_toArray, List.getElem_cons_zero, List.getElem_cons_succ, List.setIfInBounds_toArray, List.set_cons_zero, List.set_cons_succ]
  refine wpAnyH_ready (rs := [3]) (by kernel_rfl) (by simp) ?_
  refine AllReadyH.cons rfl (fun K hK => ?_) AllReadyH.nil
  go_simp
  have k2 := (Below.refl w0.heap.size w0).alloc (Nat.le_refl _) (.cells #[.int .u64 key, .int .u64 at_] 22)
  have k1 : Below w0.heap.size w0 (w0.alloc (.cells #[.int .u64 key, .int .u64 at_] 22)).drew := k2.drew
  have hr1 : RowAt (w0.alloc (.cells #[.int .u64 key, .int .u64 at_] 22)).drew.heap.size (w0.alloc (.cells #[.int .u64 key, .int .u64 at_] 22)).drew (.slice (some ⟨w0.heap.size, 0, none⟩) 2 2) [key, at_].length (intVals .u64 [key, at_]) := (RowAt.lit w0 #[.int .u64 key, .int .u64 at_] 22 2 _ (by simp)).below (Below.refl _ _).drew (Nat.le_refl _)
  clear k2
  refine hK.out _ _ (TagAt.of hX k1) (fun hHeld => ?_)
  clear hK K
  try simp only [Act.put, List.getElem_toArray, List.getElem_cons_zero, List.getElem_cons_succ, List.setIfInBounds_toArray, List.set_cons_zero, List.set_cons_succ]
  generalize hY : (w0.alloc (.cells #[.int .u64 key, .int .u64 at_] 22)).drew = w1 at k1 hr1 hHeld ⊢
  have z1 := k1.size
  clear hY
  refine wpAnyH_ready (rs := [4]) (by kernel_rfl) (by simp) ?_
  refine AllReadyH.cons rfl (fun K hK => ?_) AllReadyH.nil
  go_simp
  refine (rFold_ok _ [key, at_] HW.out _ _ (Nat.le_refl _) (by simp) hr1).mono ?_; rintro e w2 ⟨rfl, h2⟩
  have k2 := k1.trans (h2.mono z1)
  have z2 := k2.size
  go_wp2_with fail
  refine hK.out _ _ (TagAt.of hX k2) (fun hHeld => ?_)
  clear hK K
  try simp only [Act.put, List.getElem_toArray, List.getElem_cons_zero, List.getElem_cons_succ, List.setIfInBounds_toArray, List.set_cons_zero, List.set_cons_succ]
  refine wpAnyH_ready (rs := [6]) (by kernel_rfl) (by simp) ?_
  refine AllReadyH.cons rfl (fun K hK => ?_) AllReadyH.nil
  go_simp
  refine (rword_calls c s n hr hn hn' _).mono ?_; rintro e w3 ⟨rfl, h3⟩
  have k3 := k2.trans (h3.mono z2)
  have z3 := k3.size
  go_wp2_with fail
  refine hK.out _ _ (TagAt.of hX k3) (fun hHeld => ?_)
  clear hK K
  try simp only [Act.put, List.getElem_toArray, List.getElem_cons_zero, List.getElem_cons_succ, List.setIfInBounds_toArray, List.set_cons_zero, List.set_cons_succ]
  refine wpAnyH_ready (rs := [7]) (by kernel_rfl) (by simp) ?_
  refine AllReadyH.cons rfl (fun K hK => ?_) AllReadyH.nil
  go_simp
  refine (both_calls _ _ (fold_bd _).1 (fold_bd _).2 (wordI_bd c s n hr hn hn').1 (wordI_bd c s n hr hn hn').2 _).mono ?_; rintro e w4 ⟨v, rfl, ho4, h4⟩
  have k4 := k3.trans (h4.mono z3)
  go_wp2_with fail
  refine hK.out _ _ (TagAt.of hX k4) (fun hHeld => ?_)
  clear hK K
  try simp only [Act.put, List.getElem_toArray, List.getElem_cons_zero, List.getElem_cons_succ, List.setIfInBounds_toArray, List.set_cons_zero, List.set_cons_succ]
  refine wpAnyH_take (i := 8) (v := ?_) rfl (by kernel_rfl) (by kernel_rfl) (by kernel_rfl) (fun _ _ _ h => h) (Or.inl ⟨by rfl, ?_⟩) (by assumption) ?_
  rotate_left
  · (intro Y hSw; (try dsimp only at hSw); obtain ⟨hS1, hS2, hS3, hS4⟩ := hSw; go_simp; try with_reducible rfl)
  try simp only [Act.put, List.getElem_toArray, List.getElem_cons_zero, List.getElem_cons_succ, List.setIfInBounds_toArray, List.set_cons_zero, List.set_cons_succ]
  refine wpAnyH_done (by kernel_rfl) ?_ _
  go_wp2_with fail
  go_ret
  exact ⟨v, rfl, owns_weaken ho4 (by have := hw.size; omega), hw.trans (k4.mono hw.size)⟩
theorem rTail_ok (key at_ c s n : Int) (hk : 0 ≤ key) (hk' : key < 18446744073709551616) (ha : 0 ≤ at_) (ha' : at_ < 4294967296) (hr : rightI c s = true) (hn : 0 ≤ n) (hn' : n < 4294967296) (w : World) :
    Calls Try.prog 14 #[.int .u64 key, .int .u32 at_, .agg #[.int .i64 c, .int .i64 s, .int .u32 n]] w fun e w' =>
      ∃ v, e = .returned v ∧ w'.ownsRow w.heap.size 5 1 v 16 (intVals .u8 (sealB (foldI [at_, key]) (wordI c s n))) ∧ Below w.heap.size w w' := by
  obtain ⟨w0, hw0⟩ : ∃ w0, w.alloc (.cells #[.int .i64 c, .int .i64 s, .int .u32 n] 27) = w0 := ⟨_, rfl⟩
  have hX : Blk w0 w.heap.size #[.int .i64 c, .int .i64 s, .int .u32 n] 27 := by rw [← hw0]; exact Blk.new w _ _
  have hw : Below w.heap.size w w0 := by rw [← hw0]; exact (Below.refl _ w).alloc (Nat.le_refl _) _
  have hwr : IntKind.u64.wrap at_ = at_ := wraps_u64' _ ha (by omega)
  have hlw : ∀ x ∈ [at_, key], 0 ≤ x ∧ x < 18446744073709551616 := by
    intro x hx
    simp only [List.mem_cons, List.not_mem_nil, or_false] at hx
    rcases hx with rfl | rfl <;> omega
  have HW := Lib.hid hlw
  clear hlw
  go_enter Try.func14, Try.ntmps14
  go_wp2_with fail
  clear hw0
  refine wp_region_held_drew (S := TagAt w0 w.heap.size c s n) (by kernel_rfl) (TagAt.of hX (Below.refl _ w0).drew) (fun hHeld => ?_)
  refine wpAnyH_take (i := 0) (v := ?_) rfl (by kernel_rfl) (by kernel_rfl) (by kernel_rfl) (fun _ _ _ h => h) (Or.inl ⟨by rfl, ?_⟩) (by assumption) ?_
  rotate_left
  · (intro Y hSw; (try dsimp only at hSw); obtain ⟨hS1, hS2, hS3, hS4⟩ := hSw; go_simp; try with_reducible rfl)
  try simp only [Act.put, List.getElem_toArray, List.getElem_cons_zero, List.getElem_cons_succ, List.setIfInBounds_toArray, List.set_cons_zero, List.set_cons_succ]
  refine wpAnyH_take (i := 1) (v := ?_) rfl (by kernel_rfl) (by kernel_rfl) (by kernel_rfl) (fun _ _ _ h => h) (Or.inl ⟨by rfl, ?_⟩) (by assumption) ?_
  rotate_left
  · (intro Y hSw; (try dsimp only at hSw); obtain ⟨hS1, hS2, hS3, hS4⟩ := hSw; go_simp; try with_reducible rfl)
  try simp only [Act.put, List.getElem_toArray, List.getElem_cons_zero, List.getElem_cons_succ, List.setIfInBounds_toArray, List.set_cons_zero, List.set_cons_succ]
  refine wpAnyH_take (i := 2) (v := ?_) rfl (by kernel_rfl) (by kernel_rfl) (by kernel_rfl) (fun _ _ _ h => h) (Or.inl ⟨by rfl, ?_⟩) (by assumption) ?_
  rotate_left
  · (intro Y hSw; (try dsimp only at hSw); obtain ⟨hS1, hS2, hS3, hS4⟩ := hSw; go_simp; try with_reducible rfl)
  try simp only [Act.put, List.getElem_toArray, List.getElem_cons_zero, List.getElem_cons_succ, List.setIfInBounds_toArray, List.set_cons_zero, List.set_cons_succ]
  refine wpAnyH_take (i := 5) (v := ?_) rfl (by kernel_rfl) (by kernel_rfl) (by kernel_rfl) (fun _ _ _ h => h) (Or.inl ⟨by rfl, ?_⟩) (by assumption) ?_
  rotate_left
  · (intro Y hSw; (try dsimp only at hSw); obtain ⟨hS1, hS2, hS3, hS4⟩ := hSw; go_simp; try with_reducible rfl)
  try simp only [Act.put, List.getElem_toArray, List.getElem_cons_zero, List.getElem_cons_succ, List.setIfInBounds_toArray, List.set_cons_zero, List.set_cons_succ]
  refine wpAnyH_ready (rs := [3]) (by kernel_rfl) (by simp) ?_
  refine AllReadyH.cons rfl (fun K hK => ?_) AllReadyH.nil
  go_simp
  have k2 := (Below.refl w0.heap.size w0).alloc (Nat.le_refl _) (.cells #[.int .u64 at_, .int .u64 key] 22)
  have k1 : Below w0.heap.size w0 (w0.alloc (.cells #[.int .u64 at_, .int .u64 key] 22)).drew := k2.drew
  have hr1 : RowAt (w0.alloc (.cells #[.int .u64 at_, .int .u64 key] 22)).drew.heap.size (w0.alloc (.cells #[.int .u64 at_, .int .u64 key] 22)).drew (.slice (some ⟨w0.heap.size, 0, none⟩) 2 2) [at_, key].length (intVals .u64 [at_, key]) := (RowAt.lit w0 #[.int .u64 at_, .int .u64 key] 22 2 _ (by simp)).below (Below.refl _ _).drew (Nat.le_refl _)
  clear k2
  refine hK.out _ _ (TagAt.of hX k1) (fun hHeld => ?_)
  clear hK K
  try simp only [Act.put, List.getElem_toArray, List.getElem_cons_zero, List.getElem_cons_succ, List.setIfInBounds_toArray, List.set_cons_zero, List.set_cons_succ]
  generalize hY : (w0.alloc (.cells #[.int .u64 at_, .int .u64 key] 22)).drew = w1 at k1 hr1 hHeld ⊢
  have z1 := k1.size
  clear hY
  refine wpAnyH_ready (rs := [4]) (by kernel_rfl) (by simp) ?_
  refine AllReadyH.cons rfl (fun K hK => ?_) AllReadyH.nil
  go_simp
  refine (rFold_ok _ [at_, key] HW.out _ _ (Nat.le_refl _) (by simp) hr1).mono ?_; rintro e w2 ⟨rfl, h2⟩
  have k2 := k1.trans (h2.mono z1)
  have z2 := k2.size
  go_wp2_with fail
  refine hK.out _ _ (TagAt.of hX k2) (fun hHeld => ?_)
  clear hK K
  try simp only [Act.put, List.getElem_toArray, List.getElem_cons_zero, List.getElem_cons_succ, List.setIfInBounds_toArray, List.set_cons_zero, List.set_cons_succ]
  refine wpAnyH_ready (rs := [6]) (by kernel_rfl) (by simp) ?_
  refine AllReadyH.cons rfl (fun K hK => ?_) AllReadyH.nil
  go_simp
  refine (rword_calls c s n hr hn hn' _).mono ?_; rintro e w3 ⟨rfl, h3⟩
  have k3 := k2.trans (h3.mono z2)
  have z3 := k3.size
  go_wp2_with fail
  refine hK.out _ _ (TagAt.of hX k3) (fun hHeld => ?_)
  clear hK K
  try simp only [Act.put, List.getElem_toArray, List.getElem_cons_zero, List.getElem_cons_succ, List.setIfInBounds_toArray, List.set_cons_zero, List.set_cons_succ]
  refine wpAnyH_ready (rs := [7]) (by kernel_rfl) (by simp) ?_
  refine AllReadyH.cons rfl (fun K hK => ?_) AllReadyH.nil
  go_simp
  refine (both_calls _ _ (fold_bd _).1 (fold_bd _).2 (wordI_bd c s n hr hn hn').1 (wordI_bd c s n hr hn hn').2 _).mono ?_; rintro e w4 ⟨v, rfl, ho4, h4⟩
  have k4 := k3.trans (h4.mono z3)
  go_wp2_with fail
  refine hK.out _ _ (TagAt.of hX k4) (fun hHeld => ?_)
  clear hK K
  try simp only [Act.put, List.getElem_toArray, List.getElem_cons_zero, List.getElem_cons_succ, List.setIfInBounds_toArray, List.set_cons_zero, List.set_cons_succ]
  refine wpAnyH_take (i := 8) (v := ?_) rfl (by kernel_rfl) (by kernel_rfl) (by kernel_rfl) (fun _ _ _ h => h) (Or.inl ⟨by rfl, ?_⟩) (by assumption) ?_
  rotate_left
  · (intro Y hSw; (try dsimp only at hSw); obtain ⟨hS1, hS2, hS3, hS4⟩ := hSw; go_simp; try with_reducible rfl)
  try simp only [Act.put, List.getElem_toArray, List.getElem_cons_zero, List.getElem_cons_succ, List.setIfInBounds_toArray, List.set_cons_zero, List.set_cons_succ]
  refine wpAnyH_done (by kernel_rfl) ?_ _
  go_wp2_with fail
  go_ret
  exact ⟨v, rfl, owns_weaken ho4 (by have := hw.size; omega), hw.trans (k4.mono hw.size)⟩
end Go.Proofs.Ytackenlfnecanaa
