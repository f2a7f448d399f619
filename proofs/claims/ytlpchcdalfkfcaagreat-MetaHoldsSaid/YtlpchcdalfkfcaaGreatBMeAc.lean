/-
 Package meta: Get. Conditions: a memory's books in order.
-/
import Derived.Test.YtlpchcdalfkfcaaGreatBMeZ
import Derived.Test.YtlpchcdalfkfcaaGreatBMeAa
namespace Go.Proofs.YtlpchcdalfkfcaaGreat
open Go.RowKit Go.ChangeShapes
attribute [local go_sem] Oper.semAt_some
set_option maxHeartbeats 8000000
set_option maxRecDepth 8000

variable {w0 w : World} {k : Mb} {s : Ms}
theorem recV_shape (L : List Int) : ∃ x y z, recV L = .agg #[.int .i64 x, .int .i64 y, .int .u32 z] := by
 unfold recV
 split
 ·exact ⟨_, _, _, rfl⟩
 ·exact ⟨_, _, _, rfl⟩
structure GtS (b4 : Nat) (t c i : Int) (Y : World) : Prop where
 h0 : Y.cell? ⟨b4, 0, none⟩ = some (.int .i64 t)
 h1 : Y.cell? ⟨b4, 1, none⟩ = some (.int .i64 c)
 h2 : Y.cell? ⟨b4, 2, none⟩ = some (.int .i64 i)
theorem GtS.of {b4 : Nat} {t c i : Int} {Y : World} {ty : TypeId} (h : Blk Y b4 #[.int .i64 t, .int .i64 c, .int .i64 i] ty) : GtS b4 t c i Y := ⟨h.cell 0 rfl, h.cell 1 rfl, h.cell 2 rfl⟩
theorem mGet_gen (h : LivM w0 w k s) (t c i x y z n : Int)
  (hget : ∀ Y g lb pc pn pi, LivM w0 Y k s → Blk Y g parR 170 → CellsAt Y lb (askListP (spotAsks pc pn pi c i)) → AnswersP Y (spotAsks pc pn pi c i) →
   Calls Tryz.prog 51 #[.agg #[.pointer (some ⟨k.b, 0, none⟩), .int .i64 t], .agg #[.slice (some ⟨g, 0, none⟩) 4 4, .func (.func 111) #[] #[]], .int .i64 (placeI c i), .int .i64 8, .slice (some ⟨lb, 0, none⟩) 2 2] Y
    fun e w' => e = .returned (.tuple #[.agg #[.int .i64 x, .int .i64 y, .int .u32 z], .int .i64 n]) ∧ Below Y.heap.size Y w') :
  Calls Tryz.prog 18 #[.pointer (some ⟨k.b, 0, none⟩), .agg #[.int .i64 t, .int .i64 c, .int .i64 i]] w
   fun e w' => e = .returned (.tuple #[.agg #[.int .i64 x, .int .i64 y, .int .u32 z], .int .i64 n]) ∧ Below w.heap.size w w' := by
 obtain ⟨Y, hY⟩ : ∃ Y, (w.alloc (.cells #[.int .i64 t, .int .i64 c, .int .i64 i] 23)).alloc (.cells #[.int .i64 0, .int .i64 0, .int .u32 0] 47) = Y := ⟨_, rfl⟩
 have hS : Blk Y w.heap.size #[.int .i64 t, .int .i64 c, .int .i64 i] 23 := by rw [← hY]; exact (Blk.new w _ _).alloc _
 have hR : Blk Y (w.heap.size + 1) #[.int .i64 0, .int .i64 0, .int .u32 0] 47 := by rw [← hY]; exact Blk.newAt _ _ _ (by simp)
 have kY : Below w.heap.size w Y := by rw [← hY]; exact ((Below.refl _ w).alloc (Nat.le_refl _) _).alloc (by simp) _
 replace h := h.step kY
 have HG := Lib.hid hget
 clear hget
 go_enter Tryz.func18, Tryz.ntmps18
 go_wp2_with fail
 clear hY
 obtain ⟨b5, hb5⟩ : ∃ b, w.heap.size + 1 = b := ⟨_, rfl⟩
 rw [hb5] at hR ⊢
 have hb5' : w.heap.size ≤ b5 := by omega
 obtain ⟨b4, hb4⟩ : ∃ b, w.heap.size = b := ⟨_, rfl⟩
 rw [hb4] at hS ⊢
 have hne : b4 ≠ b5 := by omega
 clear hb4 hb5
 refine wp_onlyN ?_
 refine wp_region_held_drew (S := GtS b4 t c i) (by kernel_rfl) (GtS.of hS) (fun hHeld => ?_)
 obtain ⟨Z, hZ⟩ : ∃ Z, Y.drew = Z := ⟨_, rfl⟩
 have j : Below Y.heap.size Y Z := by rw [← hZ]; exact (Below.refl _ Y).drew
 rw [hZ] at hHeld ⊢
 clear hZ
 replace h := h.step j; replace hS := hS.below j hS.lt; replace hR := hR.below j hR.lt
 (try replace hG := hG.below j hG.lt); (try replace hC := hC.below j hC.lt); (try replace hN := hN.below j hN.lt); (try replace hI := hI.below j hI.lt)
 replace kY := kY.trans (j.mono kY.size); clear j
 obtain ⟨Y, rfl⟩ : ∃ Y : World, Y = Z := ⟨_, rfl⟩
 refine wpAnyH_take (i := 0) (v := ?_) rfl (by kernel_rfl) (by kernel_rfl) (by kernel_rfl) (fun _ _ _ h => h) (Or.inl ⟨by rfl, ?_⟩) (by assumption) ?_
 rotate_left
 ·(intro Y hSw; (try dsimp only at hSw); obtain ⟨hS0, hS1, hS2⟩ := hSw; go_simp; try with_reducible rfl)
 try simp only [Act.put, pu1, pu2, pu3, pu4, pu5, pu6]
 refine wpAnyH_take (i := 1) (v := ?_) rfl (by kernel_rfl) (by kernel_rfl) (by kernel_rfl) (fun _ _ _ h => h) (Or.inl ⟨by rfl, ?_⟩) (by assumption) ?_
 rotate_left
 ·(intro Y hSw; (try dsimp only at hSw); obtain ⟨hS0, hS1, hS2⟩ := hSw; go_simp; try with_reducible rfl)
 try simp only [Act.put, pu1, pu2, pu3, pu4, pu5, pu6]
 refine wpAnyH_take (i := 2) (v := ?_) rfl (by kernel_rfl) (by kernel_rfl) (by kernel_rfl) (fun _ _ _ h => h) (Or.inl ⟨by rfl, ?_⟩) (by assumption) ?_
 rotate_left
 ·(intro Y hSw; (try dsimp only at hSw); obtain ⟨hS0, hS1, hS2⟩ := hSw; go_simp; try with_reducible rfl)
 try simp only [Act.put, pu1, pu2, pu3, pu4, pu5, pu6]
 refine wpAnyH_take (i := 3) (v := ?_) rfl (by kernel_rfl) (by kernel_rfl) (by kernel_rfl) (fun _ _ _ h => h) (Or.inl ⟨by rfl, ?_⟩) (by assumption) ?_
 rotate_left
 ·(intro Y hSw; (try dsimp only at hSw); obtain ⟨hS0, hS1, hS2⟩ := hSw; go_simp; try with_reducible rfl)
 try simp only [Act.put, pu1, pu2, pu3, pu4, pu5, pu6]
 refine wpAnyH_take (i := 5) (v := ?_) rfl (by kernel_rfl) (by kernel_rfl) (by kernel_rfl) (fun _ _ _ h => h) (Or.inl ⟨by rfl, ?_⟩) (by assumption) ?_
 rotate_left
 ·(intro Y hSw; (try dsimp only at hSw); obtain ⟨hS0, hS1, hS2⟩ := hSw; go_simp; try with_reducible rfl)
 try simp only [Act.put, pu1, pu2, pu3, pu4, pu5, pu6]
 refine wpAnyH_take (i := 7) (v := ?_) rfl (by kernel_rfl) (by kernel_rfl) (by kernel_rfl) (fun _ _ _ h => h) (Or.inl ⟨by rfl, ?_⟩) (by assumption) ?_
 rotate_left
 ·(intro Y hSw; (try dsimp only at hSw); obtain ⟨hS0, hS1, hS2⟩ := hSw; go_simp; try with_reducible rfl)
 try simp only [Act.put, pu1, pu2, pu3, pu4, pu5, pu6]
 refine wpAnyH_take (i := 8) (v := ?_) rfl (by kernel_rfl) (by kernel_rfl) (by kernel_rfl) (fun _ _ _ h => h) (Or.inl ⟨by rfl, ?_⟩) (by assumption) ?_
 rotate_left
 ·(intro Y hSw; (try dsimp only at hSw); obtain ⟨hS0, hS1, hS2⟩ := hSw; go_simp; try with_reducible rfl)
 try simp only [Act.put, pu1, pu2, pu3, pu4, pu5, pu6]
 refine wpAnyH_take (i := 10) (v := ?_) rfl (by kernel_rfl) (by kernel_rfl) (by kernel_rfl) (fun _ _ _ h => h) (Or.inl ⟨by rfl, ?_⟩) (by assumption) ?_
 rotate_left
 ·(intro Y hSw; (try dsimp only at hSw); obtain ⟨hS0, hS1, hS2⟩ := hSw; go_simp; try with_reducible rfl)
 try simp only [Act.put, pu1, pu2, pu3, pu4, pu5, pu6]
 refine wpAnyH_take (i := 11) (v := ?_) rfl (by kernel_rfl) (by kernel_rfl) (by kernel_rfl) (fun _ _ _ h => h) (Or.inl ⟨by rfl, ?_⟩) (by assumption) ?_
 rotate_left
 ·(intro Y hSw; (try dsimp only at hSw); obtain ⟨hS0, hS1, hS2⟩ := hSw; go_simp; try with_reducible rfl)
 try simp only [Act.put, pu1, pu2, pu3, pu4, pu5, pu6]
 refine wpAnyH_take (i := 12) (v := ?_) rfl (by kernel_rfl) (by kernel_rfl) (by kernel_rfl) (fun _ _ _ h => h) (Or.inl ⟨by rfl, ?_⟩) (by assumption) ?_
 rotate_left
 ·(intro Y hSw; (try dsimp only at hSw); obtain ⟨hS0, hS1, hS2⟩ := hSw; go_simp; try with_reducible rfl)
 try simp only [Act.put, pu1, pu2, pu3, pu4, pu5, pu6]
 refine wpAnyH_take (i := 13) (v := ?_) rfl (by kernel_rfl) (by kernel_rfl) (by kernel_rfl) (fun _ _ _ h => h) (Or.inl ⟨by rfl, ?_⟩) (by assumption) ?_
 rotate_left
 ·(intro Y hSw; (try dsimp only at hSw); obtain ⟨hS0, hS1, hS2⟩ := hSw; go_simp; try with_reducible rfl)
 try simp only [Act.put, pu1, pu2, pu3, pu4, pu5, pu6]
 refine wpAnyH_ready (rs := [4]) (by kernel_rfl) (by simp) ?_
 refine AllReadyH.cons rfl (fun K hK => ?_) AllReadyH.nil
 go_simp
 refine (records_calls _).mono ?_; rintro e Z ⟨g, rfl, hG, j⟩
 replace h := h.step j; replace hS := hS.below j hS.lt; replace hR := hR.below j hR.lt
 (try replace hG := hG.below j hG.lt); (try replace hC := hC.below j hC.lt); (try replace hN := hN.below j hN.lt); (try replace hI := hI.below j hI.lt)
 replace kY := kY.trans (j.mono kY.size); clear j
 go_wp2_with fail
 refine hK.out _ _ (GtS.of hS) (fun hHeld => ?_)
 clear hK K
 try simp only [Act.put, pu1, pu2, pu3, pu4, pu5, pu6]
 obtain ⟨Y, rfl⟩ : ∃ Y : World, Y = Z := ⟨_, rfl⟩
 refine wpAnyH_ready (rs := [6]) (by kernel_rfl) (by simp) ?_
 refine AllReadyH.cons rfl (fun K hK => ?_) AllReadyH.nil
 go_simp
 refine (place_calls t c i _).mono ?_; rintro e Z ⟨rfl, j⟩
 replace h := h.step j; replace hS := hS.below j hS.lt; replace hR := hR.below j hR.lt
 (try replace hG := hG.below j hG.lt); (try replace hC := hC.below j hC.lt); (try replace hN := hN.below j hN.lt); (try replace hI := hI.below j hI.lt)
 replace kY := kY.trans (j.mono kY.size); clear j
 go_wp2_with fail
 refine hK.out _ _ (GtS.of hS) (fun hHeld => ?_)
 clear hK K
 try simp only [Act.put, pu1, pu2, pu3, pu4, pu5, pu6]
 obtain ⟨Y, rfl⟩ : ∃ Y : World, Y = Z := ⟨_, rfl⟩
 refine wpAnyH_ready (rs := [9]) (by kernel_rfl) (by simp) ?_
 refine AllReadyH.cons rfl (fun K hK => ?_) AllReadyH.nil
 go_simp
 refine (mclass_calls c _).mono ?_; rintro e Z ⟨pc, rfl, hC, j⟩
 replace h := h.step j; replace hS := hS.below j hS.lt; replace hR := hR.below j hR.lt
 (try replace hG := hG.below j hG.lt); (try replace hC := hC.below j hC.lt); (try replace hN := hN.below j hN.lt); (try replace hI := hI.below j hI.lt)
 replace kY := kY.trans (j.mono kY.size); clear j
 go_wp2_with fail
 refine hK.out _ _ (GtS.of hS) (fun hHeld => ?_)
 clear hK K
 try simp only [Act.put, pu1, pu2, pu3, pu4, pu5, pu6]
 obtain ⟨Y, rfl⟩ : ∃ Y : World, Y = Z := ⟨_, rfl⟩
 refine wpAnyH_ready (rs := [14]) (by kernel_rfl) (by simp) ?_
 refine AllReadyH.cons rfl (fun K hK => ?_) AllReadyH.nil
 go_simp
 refine (mindex_calls c i _).mono ?_; rintro e Z ⟨pn, pi, rfl, hN, hI, j⟩
 replace h := h.step j; replace hS := hS.below j hS.lt; replace hR := hR.below j hR.lt
 (try replace hG := hG.below j hG.lt); (try replace hC := hC.below j hC.lt); (try replace hN := hN.below j hN.lt); (try replace hI := hI.below j hI.lt)
 replace kY := kY.trans (j.mono kY.size); clear j
 go_wp2_with fail
 refine hK.out _ _ (GtS.of hS) (fun hHeld => ?_)
 clear hK K
 try simp only [Act.put, pu1, pu2, pu3, pu4, pu5, pu6]
 obtain ⟨Y, rfl⟩ : ∃ Y : World, Y = Z := ⟨_, rfl⟩
 refine wpAnyH_ready (rs := [15]) (by kernel_rfl) (by simp) ?_
 refine AllReadyH.cons rfl (fun K hK => ?_) AllReadyH.nil
 go_simp
 obtain ⟨gl, hgl⟩ : ∃ g, Y.heap.size = g := ⟨_, rfl⟩
 obtain ⟨Z, hZ⟩ : ∃ Z, Y.alloc (.cells (askListP (spotAsks pc pn pi c i)).toArray 70) = Z := ⟨_, rfl⟩
 have j : Below Y.heap.size Y Z := by rw [← hZ]; exact (Below.refl _ Y).alloc (Nat.le_refl _) _
 have hL : CellsAt Z gl (askListP (spotAsks pc pn pi c i)) := by rw [← hZ, ← hgl]; exact CellsAt.of (Blk.new Y _ _)
 rw [show Y.alloc (.cells #[.func (.func 63) #[] #[.pointer (some ⟨pc, 0, none⟩)], .int .i64 2, .func (.func 65) #[] #[.pointer (some ⟨pn, 0, none⟩), .pointer (some ⟨pi, 0, none⟩)], .int .i64 4] 70) = Z from hZ, hgl]
 clear hZ hgl
 replace h := h.step j; replace hS := hS.below j hS.lt; replace hR := hR.below j hR.lt
 (try replace hG := hG.below j hG.lt); (try replace hC := hC.below j hC.lt); (try replace hN := hN.below j hN.lt); (try replace hI := hI.below j hI.lt)
 replace kY := kY.trans (j.mono kY.size); clear j
 refine hK.out _ _ (GtS.of hS) (fun hHeld => ?_)
 clear hK K
 try simp only [Act.put, pu1, pu2, pu3, pu4, pu5, pu6]
 obtain ⟨Y, rfl⟩ : ∃ Y : World, Y = Z := ⟨_, rfl⟩
 have hans := spot_answers hC hN hI
 refine wpAnyH_ready (rs := [16]) (by kernel_rfl) (by simp) ?_
 refine AllReadyH.cons rfl (fun K hK => ?_) AllReadyH.nil
 go_simp
 refine (HG.out Y g gl pc pn pi h hG hL hans).mono ?_; rintro e Z ⟨rfl, j⟩
 clear hL hans
 replace h := h.step j; replace hS := hS.below j hS.lt; replace hR := hR.below j hR.lt
 (try replace hG := hG.below j hG.lt); (try replace hC := hC.below j hC.lt); (try replace hN := hN.below j hN.lt); (try replace hI := hI.below j hI.lt)
 replace kY := kY.trans (j.mono kY.size); clear j
 go_wp2_with fail
 refine hK.out _ _ (GtS.of hS) (fun hHeld => ?_)
 clear hK K
 try simp only [Act.put, pu1, pu2, pu3, pu4, pu5, pu6]
 obtain ⟨Y, rfl⟩ : ∃ Y : World, Y = Z := ⟨_, rfl⟩
 refine wpAnyH_take (i := 17) (v := ?_) rfl (by kernel_rfl) (by kernel_rfl) (by kernel_rfl) (fun _ _ _ h => h) (Or.inl ⟨by rfl, ?_⟩) (by assumption) ?_
 rotate_left
 ·(intro Y hSw; (try dsimp only at hSw); obtain ⟨hS0, hS1, hS2⟩ := hSw; go_simp; try with_reducible rfl)
 try simp only [Act.put, pu1, pu2, pu3, pu4, pu5, pu6]
 refine wpAnyH_take (i := 18) (v := ?_) rfl (by kernel_rfl) (by kernel_rfl) (by kernel_rfl) (fun _ _ _ h => h) (Or.inl ⟨by rfl, ?_⟩) (by assumption) ?_
 rotate_left
 ·(intro Y hSw; (try dsimp only at hSw); obtain ⟨hS0, hS1, hS2⟩ := hSw; go_simp; try with_reducible rfl)
 try simp only [Act.put, pu1, pu2, pu3, pu4, pu5, pu6]
 have r0 := hR.cell 0 (v := .int .i64 0) rfl
 have r1 := hR.cell 1 (v := .int .i64 0) rfl
 have r2 := hR.cell 2 (v := .int .u32 0) rfl
 have f0 := hR.frozen 0
 have f1 := hR.frozen 1
 have f2 := hR.frozen 2
 have zl := hR.lt
 refine wpAnyH_ready (rs := [19]) (by kernel_rfl) (by simp) ?_
 refine AllReadyH.cons rfl (fun K hK => ?_) AllReadyH.nil
 go_simp
 obtain ⟨Z, hZ⟩ : ∃ Z, ((Y.setCell ⟨b5, 0, none⟩ (.int .i64 x)).setCell ⟨b5, 1, none⟩ (.int .i64 y)).setCell ⟨b5, 2, none⟩ (.int .u32 z) = Z := ⟨_, rfl⟩
 have hR9 : Blk Z b5 #[.int .i64 x, .int .i64 y, .int .u32 z] 47 := by rw [← hZ]; exact hR.set3 _ _ _
 have hS9 : Blk Z b4 #[.int .i64 t, .int .i64 c, .int .i64 i] 23 := by rw [← hZ]; exact ((hS.setOther _ _ hne).setOther _ _ hne).setOther _ _ hne
 have kZ : Below w.heap.size w Z := by rw [← hZ]; exact ((kY.setCell hb5' _).setCell hb5' _).setCell hb5' _
 rw [hZ]
 clear hZ r0 r1 r2 f0 f1 f2 zl
 refine hK.out _ _ (GtS.of hS9) (fun hHeld => ?_)
 clear hK K
 try simp only [Act.put, pu1, pu2, pu3, pu4, pu5, pu6]
 refine wpAnyH_take (i := 20) (v := ?_) rfl (by kernel_rfl) (by kernel_rfl) (by kernel_rfl) (fun _ _ _ h => h) (Or.inl ⟨by rfl, ?_⟩) (by assumption) ?_
 rotate_left
 ·(intro Y hSw; (try dsimp only at hSw); obtain ⟨hS0, hS1, hS2⟩ := hSw; go_simp; try with_reducible rfl)
 try simp only [Act.put, pu1, pu2, pu3, pu4, pu5, pu6]
 refine wpAnyH_done (by kernel_rfl) ?_ _
 rw [onlyN_normal]
 go_wp2_with fail
 exact ret_r2 Tryz.results18 b5 (by rfl) hR9 rfl rfl ⟨rfl, kZ⟩
/-- What is wrong with a spot that is asked of a memory. -/
def getX (s : Ms) (t c i : Int) : Int := if inB 3 t = false then 2 else if inB 7 c = false then 2 else if inB (cntO c - 1) i = false then 4 else if opB s t = false then 5 else 0
theorem getX_eq (pc pn pi : Nat) (s : Ms) (t c i : Int) : gtE s t (spotAsks pc pn pi c i) = getX s t c i := by
 unfold gtE getX spotAsks
 cases inB 3 t <;> cases inB 7 c <;> cases inB (cntO c - 1) i <;> cases opB s t <;> simp [firstErrP]
theorem getX_zero {s : Ms} {t c i : Int} (h : spE t c i = 0) (hb : BkP s t) : getX s t c i = 0 := by
 obtain ⟨h1, h2, h3, _⟩ := spE_in h
 unfold getX
 rw [if_neg (by rw [h1]; decide), if_neg (by rw [h2]; decide), if_neg (by rw [h3]; decide), if_neg (by rw [hb.op]; decide)]
theorem mGet_yes (h : LivM w0 w k s) {t c i : Int} (hs : spE t c i = 0) (hb : BkP s t) (L : List Int) (hL : rdA s (-2) (spA t c i) 8 = L) (h8 : L.length = 8) (h256 : ∀ x ∈ L, 0 ≤ x ∧ x < 256) : Calls Tryz.prog 18 #[.pointer (some ⟨k.b, 0, none⟩), .agg #[.int .i64 t, .int .i64 c, .int .i64 i]] w
   fun e w' => e = .returned (.tuple #[recV L, .int .i64 (recN L)]) ∧ Below w.heap.size w w' := by
 obtain ⟨x, y, z, hv⟩ := recV_shape L
 obtain ⟨b1, b2⟩ := spA_bd hs
 have ht := hb.t4
 obtain ⟨_, _, _, he⟩ := spE_in hs
 have hp := place_bd c i
 rw [hv]
 refine mGet_gen h t c i x y z _ fun Y g lb pc pn pi hl hg hc ha => ?_
 have := mgetR_yes hl t (placeI c i) hp.1 hp.2 g lb hg (spotAsks pc pn pi c i) (by simp [spotAsks]) (by simp [spotAsks]) hc ha (by rw [getX_eq]; exact getX_zero hs hb) L ⟨by rw [he]; exact hb.reach b1 (by omega) (by decide), by rw [he]; exact hL, h8, h256⟩
 rw [hv] at this
 exact this
end Go.Proofs.YtlpchcdalfkfcaaGreat

