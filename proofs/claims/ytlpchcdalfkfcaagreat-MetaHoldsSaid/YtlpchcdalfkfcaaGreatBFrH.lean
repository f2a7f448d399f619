/-
  Package frame: Take. Conditions: a pool whose books are in order.
-/
import Derived.Test.YtlpchcdalfkfcaaGreatBFrF
import Derived.Scope
namespace Go.Proofs.YtlpchcdalfkfcaaGreat
open Go.RowKit
attribute [local go_sem] Oper.semAt_some
set_option maxHeartbeats 4000000
set_option maxRecDepth 4000

theorem PoolAt.keeps {B : Nat} {W W' : World} {b bf br : Nat} {many : Int} {F : List Fr} {R : List (Int × Int)} (h : PoolAt W b bf br many F R) (hk : Keeps B W W') : PoolAt W' b bf br many F R := ⟨h.blk.keeps hk, h.fr.keeps hk, h.re.keeps hk, h.ne⟩
theorem PoolAt.set {W : World} {b bf br : Nat} {many : Int} {F : List Fr} {R : List (Int × Int)} (h : PoolAt W b bf br many F R) (a : Addr) (v : Value) (h1 : b ≠ a.block) (h2 : bf ≠ a.block) (h3 : br ≠ a.block) : PoolAt (W.setCell a v) b bf br many F R := ⟨h.blk.setOther a v h1, h.fr.setCell a v h2, h.re.setCell a v h3, h.ne⟩
theorem PoolAt.put {W : World} {b bf br D : Nat} {many : Int} {F : List Fr} {R : List (Int × Int)} (h : PoolAt W b bf br many F R) (o : Obj) (h1 : b ≠ D) (h2 : bf ≠ D) (h3 : br ≠ D) : PoolAt (W.putObj D o) b bf br many F R := ⟨h.blk.putObj o h1, h.fr.of_block (World.putObj_heap_other h2), h.re.of_block (World.putObj_heap_other h3), h.ne⟩
theorem built_taken (who : Int) : Tryz.zeroCells214.setIfInBounds 0 (.int .i64 who) = takenA who zeros256 := by kernel_rfl
structure TakS (pp pw pa b bf : Nat) (who at_ : Int) (Y : World) : Prop where
  cp : Y.cell? ⟨pp, 0, none⟩ = some (.pointer (some ⟨b, 0, none⟩))
  cw : Y.cell? ⟨pw, 0, none⟩ = some (.int .i64 who)
  ca : Y.cell? ⟨pa, 0, none⟩ = some (.int .i64 at_)
  c0 : Y.cell? ⟨b, 0, none⟩ = some (.map (some bf))
theorem tak1_calls {w : World} {pp pw b bf br : Nat} {who many : Int} {F : List Fr} {R : List (Int × Int)} (hpo : PoolAt w b bf br many F R) (hs : Sound many F R) (hp : w.cell? ⟨pp, 0, none⟩ = some (.pointer (some ⟨b, 0, none⟩)))
    (hw : w.cell? ⟨pw, 0, none⟩ = some (.int .i64 who)) : Calls Tryz.prog 166 #[.pointer (some ⟨pp, 0, none⟩), .pointer (some ⟨pw, 0, none⟩)] w fun e w' => e = .returned (.bool (decide (resvI R who ≤ hasF F who))) ∧ Below w.heap.size w w' := by
  go_enter Tryz.func166, Tryz.ntmps166
  go_wp2_with fail
  refine wp_region_held_drew (S := ResS w pw pp pw b bf br who who many F R) (by kernel_rfl) (ResS.of hpo hw hp hw (Below.refl _ w).drew) (fun hHeld => ?_)
  refine wpAnyH_take (i := 0) (v := ?_) rfl (by kernel_rfl) (by kernel_rfl) (by kernel_rfl) (fun _ _ _ h => h) (Or.inl ⟨by rfl, ?_⟩) (by assumption) ?_
  rotate_left
  · (intro Y hSw; (try dsimp only at hSw); obtain ⟨hS0, hS1, hS2, hS3, hS4, hS5, hS6⟩ := hSw; go_simp; try with_reducible rfl)
  try simp only [Act.put, pu1, pu2, pu3, pu4, pu5, pu6]
  refine wpAnyH_take (i := 1) (v := ?_) rfl (by kernel_rfl) (by kernel_rfl) (by kernel_rfl) (fun _ _ _ h => h) (Or.inl ⟨by rfl, ?_⟩) (by assumption) ?_
  rotate_left
  · (intro Y hSw; (try dsimp only at hSw); obtain ⟨hS0, hS1, hS2, hS3, hS4, hS5, hS6⟩ := hSw; go_simp; try with_reducible rfl)
  try simp only [Act.put, pu1, pu2, pu3, pu4, pu5, pu6]
  refine wpAnyH_take (i := 3) (v := ?_) rfl (by kernel_rfl) (by kernel_rfl) (by kernel_rfl) (fun _ _ _ h => h) (Or.inl ⟨by rfl, ?_⟩) (by assumption) ?_
  rotate_left
  · (intro Y hSw; (try dsimp only at hSw); obtain ⟨hS0, hS1, hS2, hS3, hS4, hS5, hS6⟩ := hSw; go_simp; try with_reducible rfl)
  try simp only [Act.put, pu1, pu2, pu3, pu4, pu5, pu6]
  refine wpAnyH_take (i := 4) (v := ?_) rfl (by kernel_rfl) (by kernel_rfl) (by kernel_rfl) (fun _ _ _ h => h) (Or.inl ⟨by rfl, ?_⟩) (by assumption) ?_
  rotate_left
  · (intro Y hSw; (try dsimp only at hSw); obtain ⟨hS0, hS1, hS2, hS3, hS4, hS5, hS6⟩ := hSw; go_simp; try with_reducible rfl)
  try simp only [Act.put, pu1, pu2, pu3, pu4, pu5, pu6]
  refine wpAnyH_take (i := 5) (v := ?_) rfl (by kernel_rfl) (by kernel_rfl) (by kernel_rfl) (fun _ _ _ h => h) (Or.inl ⟨by rfl, ?_⟩) (by assumption) ?_
  rotate_left
  · (intro Y hSw; (try dsimp only at hSw); obtain ⟨hS0, hS1, hS2, hS3, hS4, hS5, hS6⟩ := hSw; go_simp; try with_reducible rfl)
  try simp only [Act.put, pu1, pu2, pu3, pu4, pu5, pu6]
  refine wpAnyH_take (i := 6) (v := ?_) rfl (by kernel_rfl) (by kernel_rfl) (by kernel_rfl) (fun _ _ _ h => h) (Or.inl ⟨by rfl, ?_⟩) (by assumption) ?_
  rotate_left
  · (intro Y hSw; (try dsimp only at hSw); obtain ⟨hS0, hS1, hS2, hS3, hS4, hS5, hS6⟩ := hSw; go_simp; try with_reducible rfl)
  try simp only [Act.put, pu1, pu2, pu3, pu4, pu5, pu6]
  refine wpAnyH_take (i := 7) (v := ?_) rfl (by kernel_rfl) (by kernel_rfl) (by kernel_rfl) (fun _ _ _ h => h) (Or.inl ⟨by rfl, ?_⟩) (by assumption) ?_
  rotate_left
  · (intro Y hSw; (try dsimp only at hSw); obtain ⟨hS0, hS1, hS2, hS3, hS4, hS5, hS6⟩ := hSw; go_simp; try with_reducible rfl)
  try simp only [Act.put, pu1, pu2, pu3, pu4, pu5, pu6]
  refine wpAnyH_take (i := 8) (v := ?_) rfl (by kernel_rfl) (by kernel_rfl) (by kernel_rfl) (fun _ _ _ h => h) (Or.inl ⟨by rfl, ?_⟩) (by assumption) ?_
  rotate_left
  · (intro Y hSw; (try dsimp only at hSw); obtain ⟨hS0, hS1, hS2, hS3, hS4, hS5, hS6⟩ := hSw; go_simp; try with_reducible rfl)
  try simp only [Act.put, pu1, pu2, pu3, pu4, pu5, pu6]
  refine wpAnyH_take (i := 9) (v := ?_) rfl (by kernel_rfl) (by kernel_rfl) (by kernel_rfl) (fun _ _ _ h => h) (Or.inl ⟨by rfl, ?_⟩) (by assumption) ?_
  rotate_left
  · (intro Y hSw; (try dsimp only at hSw); obtain ⟨hS0, hS1, hS2, hS3, hS4, hS5, hS6⟩ := hSw; go_simp; try with_reducible rfl)
  try simp only [Act.put, pu1, pu2, pu3, pu4, pu5, pu6]
  refine wpAnyH_ready (rs := [2]) (by kernel_rfl) (by simp) ?_
  refine AllReadyH.cons rfl (fun K hK => ?_) AllReadyH.nil
  go_simp
  refine (has_calls (hpo.step (Below.refl _ w).drew) hs who).mono ?_; rintro e w1 ⟨rfl, h1⟩
  have k1 := (Below.refl w.heap.size w).drew.trans (h1.mono (Nat.le_refl _))
  go_wp2_with fail
  refine hK.out _ _ (ResS.of hpo hw hp hw k1) (fun hHeld => ?_)
  clear hK K
  try simp only [Act.put, pu1, pu2, pu3, pu4, pu5, pu6]
  refine wpAnyH_take (i := 10) (v := ?_) rfl (by kernel_rfl) (by kernel_rfl) (by kernel_rfl) (fun _ _ _ h => h) (Or.inl ⟨by rfl, ?_⟩) (by assumption) ?_
  rotate_left
  · (intro Y hSw; (try dsimp only at hSw); obtain ⟨hS0, hS1, hS2, hS3, hS4, hS5, hS6⟩ := hSw; go_simp; try with_reducible rfl)
  try simp only [Act.put, pu1, pu2, pu3, pu4, pu5, pu6]
  refine wpAnyH_take (i := 11) (v := ?_) rfl (by kernel_rfl) (by kernel_rfl) (by kernel_rfl) (fun _ _ _ h => h) (Or.inl ⟨by rfl, ?_⟩) (by assumption) ?_
  rotate_left
  · (intro Y hSw; (try dsimp only at hSw); obtain ⟨hS0, hS1, hS2, hS3, hS4, hS5, hS6⟩ := hSw; go_simp; try with_reducible rfl)
  try simp only [Act.put, pu1, pu2, pu3, pu4, pu5, pu6]
  refine wpAnyH_done (by kernel_rfl) ?_ _
  go_wp2_with fail
  go_ret
  exact ⟨rfl, k1⟩
def takAsks (b bo pp pw : Nat) (F : List Fr) (R : List (Int × Int)) (who : Int) : List Ask :=
  [⟨153, #[.pointer (some ⟨b, 0, none⟩)], #[], 1, false⟩, ⟨185, #[], #[.pointer (some ⟨bo, 0, none⟩)], 2, badOwner who⟩,
   ⟨166, #[], #[.pointer (some ⟨pp, 0, none⟩), .pointer (some ⟨pw, 0, none⟩)], 171, decide (resvI R who ≤ hasF F who)⟩]
def takErr (F : List Fr) (R : List (Int × Int)) (who : Int) : Int := if badOwner who = true then 2 else if resvI R who ≤ hasF F who then 171 else 0
theorem takErr_eq (b bo pp pw : Nat) (F : List Fr) (R : List (Int × Int)) (who : Int) : firstErr (takAsks b bo pp pw F R who) = takErr F R who := by
  simp [firstErr, takAsks, takErr]
theorem tak_answers {w : World} {bo pp pw b bf br : Nat} {who many : Int} {F : List Fr} {R : List (Int × Int)} (hpo : PoolAt w b bf br many F R) (hs : Sound many F R) (ho : w.cell? ⟨bo, 0, none⟩ = some (.int .i64 who))
    (hp : w.cell? ⟨pp, 0, none⟩ = some (.pointer (some ⟨b, 0, none⟩))) (hw : w.cell? ⟨pw, 0, none⟩ = some (.int .i64 who)) : Answers w (takAsks b bo pp pw F R who) := by
  constructor
  · intro i h args W
    match i, h with
    | 0, _ => exact enters_of Tryz.func153 (by kernel_rfl) rfl args W
    | 1, _ => exact enters_of Tryz.func185 (by kernel_rfl) rfl args W
    | 2, _ => exact enters_of Tryz.func166 (by kernel_rfl) rfl args W
  · intro i h W k
    have tp := (k.cell (p := ⟨pp, 0, none⟩) (World.block_lt_of_cell? w _ hp)).trans hp
    have tw := (k.cell (p := ⟨pw, 0, none⟩) (World.block_lt_of_cell? w _ hw)).trans hw
    have to := (k.cell (p := ⟨bo, 0, none⟩) (World.block_lt_of_cell? w _ ho)).trans ho
    match i, h with
    | 0, _ => exact none_live (hpo.step k)
    | 1, _ => exact owner1_calls who bo W to
    | 2, _ => exact tak1_calls (hpo.step k) hs tp tw
theorem setA_encF (F : List Fr) (k : Int) (o : Int) (bs : List Int) (h : inF F k = false) : setA (encF F) k (.agg (takenA o bs)) = encF (F ++ [(k, o, bs)]) := by
  unfold setA
  rw [hasA_encF, h]
  simp [encF]
def takAt (many : Int) (F : List Fr) (R : List (Int × Int)) (who : Int) : Int := if takErr F R who = 0 then (freeI many F).headD 0 else 0
def takAfter (many : Int) (F : List Fr) (R : List (Int × Int)) (who : Int) : List Fr := if takErr F R who = 0 then F ++ [((freeI many F).headD 0, who, zeros256)] else F
theorem Take_ok {w : World} {b bf br : Nat} {many : Int} {F : List Fr} {R : List (Int × Int)} (hpo : PoolAt w b bf br many F R) (hs : Sound many F R) (who : Int) (hfree : takErr F R who = 0 → ∃ k suf, freeI many F = k :: suf) :
    Calls Tryz.prog 97 #[.pointer (some ⟨b, 0, none⟩), .int .i64 who] w fun e w' => e = .returned (.tuple #[.int .i64 (takAt many F R who), .int .i64 (takErr F R who)]) ∧
      PoolAt w' b bf br many (takAfter many F R who) R ∧ Chg bf w w' := by
  obtain ⟨w0, hw0⟩ : ∃ w0, ((w.alloc (.cells #[.pointer (some ⟨b, 0, none⟩)] 137)).alloc (.cells #[.int .i64 who] 3)).alloc (.cells #[.int .i64 0] 3) = w0 := ⟨_, rfl⟩
  have hA : Blk w0 w.heap.size #[.pointer (some ⟨b, 0, none⟩)] 137 := by rw [← hw0]; exact ((Blk.new w _ _).alloc _).alloc _
  have hB : Blk w0 (w.heap.size + 1) #[.int .i64 who] 3 := by rw [← hw0]; exact (Blk.newAt _ _ _ (by simp)).alloc _
  have hC : Blk w0 (w.heap.size + 1 + 1) #[.int .i64 0] 3 := by rw [← hw0]; exact Blk.newAt _ _ _ (by simp)
  have h0 : PoolAt w0 b bf br many F R := by rw [← hw0]; exact ((hpo.alloc _).alloc _).alloc _
  have hb0 : Below w.heap.size w w0 := by rw [← hw0]; exact (((Below.refl _ w).alloc (Nat.le_refl _) _).alloc (by simp) _).alloc (by simp; omega) _
  have z0 := hb0.size
  have a0 : w0.cell? ⟨w.heap.size, 0, none⟩ = some (.pointer (some ⟨b, 0, none⟩)) := hA.cell 0 rfl
  have a1 : w0.cell? ⟨w.heap.size + 1, 0, none⟩ = some (.int .i64 who) := hB.cell 0 rfl
  obtain ⟨q, hq⟩ : ∃ q, takErr F R who = q := ⟨_, rfl⟩
  have HQ := Lib.hid hq
  have HF := Lib.hid hfree
  rw [hq]
  clear hq hfree
  refine calls_of_wp_marks Tryz.func97 rfl ?_; simp only [Tryz.ntmps97, List.size_toArray, List.length_cons, List.length_nil, Nat.reduceAdd, Nat.reduceSub, Array.replicate_succ, Array.replicate_zero, List.push_toArray, List.append_toArray, List.nil_append, List.cons_append]
  go_wp2_with fail
  clear hw0
  refine wp_scope_straight ?_
  go_wp2_with fail
  refine wp_onlyN ?_
  refine wp_region_held_drew (S := ResS w0 (w.heap.size + 1) w.heap.size (w.heap.size + 1) b bf br who who many F R) (by kernel_rfl) (ResS.of h0 a1 a0 a1 (Below.refl _ w0).drew) (fun hHeld => ?_)
  refine wpAnyH_take (i := 0) (v := ?_) rfl (by kernel_rfl) (by kernel_rfl) (by kernel_rfl) (fun _ _ _ h => h) (Or.inl ⟨by rfl, ?_⟩) (by assumption) ?_
  rotate_left
  · (intro Y hSw; (try dsimp only at hSw); obtain ⟨hS0, hS1, hS2, hS3, hS4, hS5, hS6⟩ := hSw; go_simp; try with_reducible rfl)
  try simp only [Act.put, pu1, pu2, pu3, pu4, pu5, pu6]
  refine wpAnyH_take (i := 2) (v := ?_) rfl (by kernel_rfl) (by kernel_rfl) (by kernel_rfl) (fun _ _ _ h => h) (Or.inl ⟨by rfl, ?_⟩) (by assumption) ?_
  rotate_left
  · (intro Y hSw; (try dsimp only at hSw); obtain ⟨hS0, hS1, hS2, hS3, hS4, hS5, hS6⟩ := hSw; go_simp; try with_reducible rfl)
  try simp only [Act.put, pu1, pu2, pu3, pu4, pu5, pu6]
  refine wpAnyH_take (i := 4) (v := ?_) rfl (by kernel_rfl) (by kernel_rfl) (by kernel_rfl) (fun _ _ _ h => h) (Or.inl ⟨by rfl, ?_⟩) (by assumption) ?_
  rotate_left
  · (intro Y hSw; (try dsimp only at hSw); obtain ⟨hS0, hS1, hS2, hS3, hS4, hS5, hS6⟩ := hSw; go_simp; try with_reducible rfl)
  try simp only [Act.put, pu1, pu2, pu3, pu4, pu5, pu6]
  refine wpAnyH_take (i := 5) (v := ?_) rfl (by kernel_rfl) (by kernel_rfl) (by kernel_rfl) (fun _ _ _ h => h) (Or.inl ⟨by rfl, ?_⟩) (by assumption) ?_
  rotate_left
  · (intro Y hSw; (try dsimp only at hSw); obtain ⟨hS0, hS1, hS2, hS3, hS4, hS5, hS6⟩ := hSw; go_simp; try with_reducible rfl)
  try simp only [Act.put, pu1, pu2, pu3, pu4, pu5, pu6]
  refine wpAnyH_ready (rs := [1]) (by kernel_rfl) (by simp) ?_
  refine AllReadyH.cons rfl (fun K hK => ?_) AllReadyH.nil
  go_simp
  refine (is_calls _ _).mono ?_; rintro e w1 ⟨rfl, h1⟩
  have k1 := (Below.refl w0.heap.size w0).drew.trans (h1.mono (Nat.le_refl _))
  go_wp2_with fail
  refine hK.out _ _ (ResS.of h0 a1 a0 a1 k1) (fun hHeld => ?_)
  clear hK K
  try simp only [Act.put, pu1, pu2, pu3, pu4, pu5, pu6]
  refine wpAnyH_ready (rs := [3]) (by kernel_rfl) (by simp) ?_
  refine AllReadyH.cons rfl (fun K hK => ?_) AllReadyH.nil
  go_simp
  refine (owner_calls _ _).mono ?_; rintro e w2 ⟨rfl, hO, h2⟩
  have k2 := k1.trans (h2.mono k1.size)
  have z2 := k2.size
  go_wp2_with fail
  refine hK.out _ _ (ResS.of h0 a1 a0 a1 k2) (fun hHeld => ?_)
  clear hK K
  try simp only [Act.put, pu1, pu2, pu3, pu4, pu5, pu6]
  refine wpAnyH_ready (rs := [6]) (by kernel_rfl) (by simp) ?_
  refine AllReadyH.cons rfl (fun K hK => ?_) AllReadyH.nil
  go_simp
  have k3 := k2.alloc z2 (.cells (askList (takAsks b w1.heap.size w.heap.size (w.heap.size + 1) F R who)).toArray 196)
  have hrow : AskRow (w2.alloc (.cells (askList (takAsks b w1.heap.size w.heap.size (w.heap.size + 1) F R who)).toArray 196)) w2.heap.size (takAsks b w1.heap.size w.heap.size (w.heap.size + 1) F R who) := askRow_of (Blk.new w2 _ _)
  have hO3 := hO.alloc (.cells (askList (takAsks b w1.heap.size w.heap.size (w.heap.size + 1) F R who)).toArray 196)
  refine hK.out _ _ (ResS.of h0 a1 a0 a1 k3) (fun hHeld => ?_)
  clear hK K
  try simp only [Act.put, pu1, pu2, pu3, pu4, pu5, pu6]
  change wpAnyH _ _ _ _ _ _ _ _ (w2.alloc (.cells (askList (takAsks b w1.heap.size w.heap.size (w.heap.size + 1) F R who)).toArray 196))
  generalize (w2.alloc (.cells (askList (takAsks b w1.heap.size w.heap.size (w.heap.size + 1) F R who)).toArray 196)) = w3 at k3 hrow hO3 hHeld ⊢
  have hans : Answers w3 (takAsks b w1.heap.size w.heap.size (w.heap.size + 1) F R who) :=
    tak_answers (h0.step k3) hs (hO3.cell 0 rfl) ((hA.below k3 hA.lt).cell 0 rfl) ((hB.below k3 hB.lt).cell 0 rfl)
  refine wpAnyH_ready (rs := [7]) (by kernel_rfl) (by simp) ?_
  refine AllReadyH.cons rfl (fun K hK => ?_) AllReadyH.nil
  go_simp
  refine (asked_ok w3 w2.heap.size 3 3 _ rfl (by simp [takAsks]) (Lib.hid hrow) (Lib.hid hans)).mono ?_; rintro e w4 ⟨rfl, h4⟩
  rw [takErr_eq, HQ.out]
  have k4 := k3.trans (h4.mono k3.size)
  have z4 := k4.size
  go_wp2_with fail
  refine hK.out _ _ (ResS.of h0 a1 a0 a1 k4) (fun hHeld => ?_)
  clear hK K
  try simp only [Act.put, pu1, pu2, pu3, pu4, pu5, pu6]
  refine wpAnyH_take (i := 8) (v := ?_) rfl (by kernel_rfl) (by kernel_rfl) (by kernel_rfl) (fun _ _ _ h => h) (Or.inl ⟨by rfl, ?_⟩) (by assumption) ?_
  rotate_left
  · (intro Y hSw; (try dsimp only at hSw); obtain ⟨hS0, hS1, hS2, hS3, hS4, hS5, hS6⟩ := hSw; go_simp; try with_reducible rfl)
  try simp only [Act.put, pu1, pu2, pu3, pu4, pu5, pu6]
  refine wpAnyH_done (by kernel_rfl) ?_ _
  rw [onlyN_normal]
  clear hrow hans hO3 hO h4 k3 k2 k1 h1 h2 hHeld
  have hP4 := h0.step k4
  have hch : Chg bf w w4 := .of_below (hb0.trans (k4.mono z0))
  have hA4 := hA.below k4 hA.lt
  have hB4 := hB.below k4 hB.lt
  have hC4 := hC.below k4 hC.lt
  have hbl := hpo.blk.lt
  have hbrl := hpo.re.lt
  have hbfl := hpo.fr.lt
  have hap := hpo.apart
  have d2 : w4.cell? ⟨w.heap.size + 1 + 1, 0, none⟩ = some (.int .i64 0) := hC4.cell 0 rfl
  have f2 := hC4.frozen 0
  by_cases h9 : q = 0
  · subst h9
    obtain ⟨at_, suf, hfr⟩ := HF.out HQ.out
    have HFR := Lib.hid hfr
    have a4 : w4.cell? ⟨w.heap.size, 0, none⟩ = some (.pointer (some ⟨b, 0, none⟩)) := hA4.cell 0 rfl
    go_wp2_with fail
    refine wp_label ?_
    go_wp2_with fail
    refine (free_calls _ _).mono ?_; rintro e w5' ⟨rfl, rfl⟩
    have hF5 := Blk.new w4 #[.pointer (some ⟨b, 0, none⟩)] 137
    have hA5 := hA4.alloc (.cells #[.pointer (some ⟨b, 0, none⟩)] 137)
    have hB5 := hB4.alloc (.cells #[.pointer (some ⟨b, 0, none⟩)] 137)
    have hC5 := hC4.alloc (.cells #[.pointer (some ⟨b, 0, none⟩)] 137)
    have hP5 := hP4.alloc (.cells #[.pointer (some ⟨b, 0, none⟩)] 137)
    have hch5 : Chg bf w (w4.alloc (.cells #[.pointer (some ⟨b, 0, none⟩)] 137)) := hch.trans (.of_below ((Below.refl _ w4).alloc (Nat.le_refl _) _))
    clear hA4 hB4 hC4 hP4 d2 f2 a4 hch
    have hz5 : w.heap.size + 3 ≤ (w4.alloc (.cells #[.pointer (some ⟨b, 0, none⟩)] 137)).heap.size := by have := hC5.lt; omega
    go_wp2_with fail
    generalize hw5 : w4.alloc (.cells #[.pointer (some ⟨b, 0, none⟩)] 137) = w5 at *
    clear hw5
    have hpl : b < w5.heap.size ∧ bf < w5.heap.size ∧ br < w5.heap.size := ⟨hP5.blk.lt, hP5.fr.lt, hP5.re.lt⟩
    refine wp_range1 rfl (enters_of Tryz.func196 (by kernel_rfl) rfl) (free_iter w4.heap.size b bf br many F R hs) (fun _ => rfl)
      (fun pre W => pre = [] ∧ Blk W w.heap.size #[.pointer (some ⟨b, 0, none⟩)] 137 ∧ Blk W (w.heap.size + 1) #[.int .i64 who] 3 ∧ Blk W (w.heap.size + 1 + 1) #[.int .i64 0] 3 ∧ Blk W w4.heap.size #[.pointer (some ⟨b, 0, none⟩)] 137 ∧ PoolAt W b bf br many F R ∧ Chg bf w W)
      (fun c W => c = .exit 0 ∧ Blk W w.heap.size #[.pointer (some ⟨b, 0, none⟩)] 137 ∧ Blk W (w.heap.size + 1) #[.int .i64 who] 3 ∧ Blk W (w.heap.size + 1 + 1) #[.int .i64 at_] 3 ∧ PoolAt W b bf br many F R ∧ Chg bf w W)
      ?a1 ?ha ?hI ?hIx ?hA ?h0 ?hbody ?hdone ?hstop
    case ha => intro m l x W K hK; gi_wp2; exact hK
    case hI => rintro pre X Y ⟨h0, h1, h2, h3, h4, h5, h6⟩ hk; exact ⟨h0, h1.keeps hk, h2.keeps hk, h3.keeps hk, h4.keeps hk, h5.keeps hk, h6.more hk.below (by omega)⟩
    case hIx => rintro c X Y ⟨h0, h1, h2, h3, h5, h6⟩ hk; exact ⟨h0, h1.keeps hk, h2.keeps hk, h3.keeps hk, h5.keeps hk, h6.more hk.below (by omega)⟩
    case hA => rintro pre W ⟨h0, h1, h2, h3, h4, h5, h6⟩; exact ⟨h4.cell 0 rfl, h5⟩
    case h0 => exact ⟨rfl, hA5, hB5, hC5, hF5, hP5, hch5⟩
    case hbody =>
      rintro m l pre x suf' W hxs hl hrec ⟨rfl, h1, h2, h3, h4, h5, h6⟩
      have hx : x = at_ := by
        rw [HFR.out] at hxs
        simp only [List.nil_append, List.cons.injEq] at hxs
        exact hxs.1.symm
      subst hx
      have c1 : W.cell? ⟨w.heap.size + 1 + 1, 0, none⟩ = some (.int .i64 0) := h3.cell 0 rfl
      have f1 := h3.frozen 0
      gi_wp2
      exact ⟨(KeepsRec.refl W).setCell _ _, rfl, h1.setOther _ _ (by dsimp only; omega), h2.setOther _ _ (by dsimp only; omega), h3.set 0 _, h5.set _ _ (by dsimp only; omega) (by dsimp only; omega) (by dsimp only; omega), h6.set _ _ (by dsimp only; omega)⟩
    case hdone =>
      rintro D W hD ⟨h0, _⟩ hK
      rw [HFR.out] at h0
      cases h0
    case hstop =>
      rintro D c W hD ⟨rfl, h1, h2, h3, h5, h6⟩ hK
      have hin : inF F at_ = false := by
        have h9 : at_ ∈ freeI many F := by rw [HFR.out]; exact List.mem_cons_self
        unfold freeI freeK at h9
        simpa using (List.mem_filter.1 h9).2
      have hST : TakS w.heap.size (w.heap.size + 1) (w.heap.size + 1 + 1) b bf who at_ W.drew := ⟨h1.cell 0 rfl, h2.cell 0 rfl, h3.cell 0 rfl, h5.cells.1⟩
      obtain ⟨wu, hrun, hMu, hTu⟩ := (show MapI W.drew bf (encF F) from h5.fr).store (P := Tryz.prog) Tryz.underlying184 Tryz.underlying3 at_ (.agg (Tryz.zeroCells214.setIfInBounds 0 (.int .i64 who)))
      rw [built_taken, setA_encF F at_ who zeros256 hin] at hMu
      have g1 := (h1.drewN 1).turn hTu (by omega)
      have g2 := (h2.drewN 1).turn hTu (by omega)
      have g3 := (h3.drewN 1).turn hTu (by omega)
      have hSu : TakS w.heap.size (w.heap.size + 1) (w.heap.size + 1 + 1) b bf who at_ wu := ⟨g1.cell 0 rfl, g2.cell 0 rfl, g3.cell 0 rfl, cell_turn hTu h5.cells.1 hap.1⟩
      have hPu : PoolAt wu b bf br many (F ++ [(at_, who, zeros256)]) R := ⟨(hTu.block b hap.1).trans h5.blk, hMu, (show MapI W.drew br (encRF R) from h5.re).turn hTu (Ne.symm hpo.ne), hpo.ne⟩
      have hchu : Chg bf w wu := (h6.more (Below.refl _ W).drew (by have := h6.size; omega)).trans (.of_turn hTu)
      have hKu : wu.heap[D]? = some (.deferred (some [])) := (hTu.block D (by omega)).trans hK
      go_wp2_with fail
      refine wp_onlyN ?_
      refine wp_region_held_drew (S := TakS w.heap.size (w.heap.size + 1) (w.heap.size + 1 + 1) b bf who at_) (by kernel_rfl) hST (fun hHeld => ?_)
      refine wpAnyH_take (i := 0) (v := ?_) rfl (by kernel_rfl) (by kernel_rfl) (by kernel_rfl) (fun _ _ _ h => h) (Or.inl ⟨by rfl, ?_⟩) (by assumption) ?_
      rotate_left
      · (intro Y hSw; (try dsimp only at hSw); obtain ⟨hS0, hS1, hS2, hS3⟩ := hSw; go_simp; try with_reducible rfl)
      try simp only [Act.put, pu1, pu2, pu3, pu4, pu5, pu6]
      refine wpAnyH_take (i := 1) (v := ?_) rfl (by kernel_rfl) (by kernel_rfl) (by kernel_rfl) (fun _ _ _ h => h) (Or.inl ⟨by rfl, ?_⟩) (by assumption) ?_
      rotate_left
      · (intro Y hSw; (try dsimp only at hSw); obtain ⟨hS0, hS1, hS2, hS3⟩ := hSw; go_simp; try with_reducible rfl)
      try simp only [Act.put, pu1, pu2, pu3, pu4, pu5, pu6]
      refine wpAnyH_take (i := 2) (v := ?_) rfl (by kernel_rfl) (by kernel_rfl) (by kernel_rfl) (fun _ _ _ h => h) (Or.inl ⟨by rfl, ?_⟩) (by assumption) ?_
      rotate_left
      · (intro Y hSw; (try dsimp only at hSw); obtain ⟨hS0, hS1, hS2, hS3⟩ := hSw; go_simp; try with_reducible rfl)
      try simp only [Act.put, pu1, pu2, pu3, pu4, pu5, pu6]
      refine wpAnyH_take (i := 3) (v := ?_) rfl (by kernel_rfl) (by kernel_rfl) (by kernel_rfl) (fun _ _ _ h => h) (Or.inl ⟨by rfl, ?_⟩) (by assumption) ?_
      rotate_left
      · (intro Y hSw; (try dsimp only at hSw); obtain ⟨hS0, hS1, hS2, hS3⟩ := hSw; go_simp; try with_reducible rfl)
      try simp only [Act.put, pu1, pu2, pu3, pu4, pu5, pu6]
      refine wpAnyH_take (i := 4) (v := ?_) rfl (by kernel_rfl) (by kernel_rfl) (by kernel_rfl) (fun _ _ _ h => h) (Or.inl ⟨by rfl, ?_⟩) (by assumption) ?_
      rotate_left
      · (intro Y hSw; (try dsimp only at hSw); obtain ⟨hS0, hS1, hS2, hS3⟩ := hSw; go_simp; try with_reducible rfl)
      try simp only [Act.put, pu1, pu2, pu3, pu4, pu5, pu6]
      refine wpAnyH_take (i := 5) (v := ?_) rfl (by kernel_rfl) (by kernel_rfl) (by kernel_rfl) (fun _ _ _ h => h) (Or.inl ⟨by rfl, ?_⟩) (by assumption) ?_
      rotate_left
      · (intro Y hSw; (try dsimp only at hSw); obtain ⟨hS0, hS1, hS2, hS3⟩ := hSw; go_simp; try with_reducible rfl)
      try simp only [Act.put, pu1, pu2, pu3, pu4, pu5, pu6]
      refine wpAnyH_take (i := 6) (v := ?_) rfl (by kernel_rfl) (by kernel_rfl) (by kernel_rfl) (fun _ _ _ h => h) (Or.inl ⟨by rfl, ?_⟩) (by assumption) ?_
      rotate_left
      · (intro Y hSw; (try dsimp only at hSw); obtain ⟨hS0, hS1, hS2, hS3⟩ := hSw; go_simp; try with_reducible rfl)
      try simp only [Act.put, pu1, pu2, pu3, pu4, pu5, pu6]
      refine wpAnyH_take (i := 7) (v := ?_) rfl (by kernel_rfl) (by kernel_rfl) (by kernel_rfl) (fun _ _ _ h => h) (Or.inl ⟨by rfl, ?_⟩) (by assumption) ?_
      rotate_left
      · (intro Y hSw; (try dsimp only at hSw); obtain ⟨hS0, hS1, hS2, hS3⟩ := hSw; go_simp; try with_reducible rfl)
      try simp only [Act.put, pu1, pu2, pu3, pu4, pu5, pu6]
      refine wpAnyH_ready (rs := [8]) (by kernel_rfl) (by simp) ?_
      refine AllReadyH.cons rfl (fun K hK => ?_) AllReadyH.nil
      go_simp
      refine hK.out _ _ (hSu) (fun hHeld => ?_)
      clear hK K
      try simp only [Act.put, pu1, pu2, pu3, pu4, pu5, pu6]
      refine wpAnyH_done (by kernel_rfl) ?_ _
      rw [onlyN_normal]
      have t2 : wu.cell? ⟨w.heap.size + 1 + 1, 0, none⟩ = some (.int .i64 at_) := hSu.ca
      have u2 := g3.frozen 0
      clear hrun hHeld
      go_wp2_with fail
      rw [Exit.noGoto_ret]
      have hKf : (wu.setCell ⟨w.heap.size + 1 + 1, 0, none⟩ (.int .i64 at_)).heap[D]? = some (.deferred (some [])) := (Below.heap_setCell wu _ _ D (by dsimp only; omega)).trans hKu
      have gF := (g3.set 0 (.int .i64 at_)).putObj (.deferred none) (show w.heap.size + 1 + 1 ≠ D by omega)
      have tF := gF.cell 0 (v := .int .i64 at_) rfl
      have hhd : (freeI many F).headD 0 = at_ := by rw [HFR.out]; rfl
      refine postM_ret (v := .tuple #[.int .i64 at_, .int .i64 0]) hKf (by simp [results, Tryz.results97, go_sem, tF]) ⟨?_, ?_, ?_⟩
      · unfold takAt; rw [if_pos HQ.out, hhd]
      · unfold takAfter
        rw [if_pos HQ.out, hhd]
        exact (hPu.set _ _ (by dsimp only; omega) (by dsimp only; omega) (by dsimp only; omega)).put _ (by omega) (by omega) (by omega)
      · exact (hchu.set _ _ (by dsimp only; omega)).put _ (by omega)
  · go_wp2_with fail
    rw [Exit.noGoto_ret]
    have gF := hC4.set 0 (.int .i64 0)
    have tF := gF.cell 0 (v := .int .i64 0) rfl
    refine postM_ret0 (v := .tuple #[.int .i64 0, .int .i64 q]) (by simp [results, Tryz.results97, go_sem, tF]) ⟨?_, ?_, ?_⟩
    · unfold takAt; rw [HQ.out, if_neg h9]
    · unfold takAfter
      rw [HQ.out, if_neg h9]
      exact hP4.set _ _ (by dsimp only; omega) (by dsimp only; omega) (by dsimp only; omega)
    · exact hch.set _ _ (by dsimp only; omega)
end Go.Proofs.YtlpchcdalfkfcaaGreat

