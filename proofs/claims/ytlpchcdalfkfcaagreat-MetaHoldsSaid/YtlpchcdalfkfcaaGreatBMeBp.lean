/-
 Package meta: Put that is let; PutGreat. Conditions: a memory's books in order.
-/
import Derived.Test.YtlpchcdalfkfcaaGreatBMeBi
import Derived.Test.YtlpchcdalfkfcaaGreatBMeBk
import Derived.Test.YtlpchcdalfkfcaaGreatBMeAa
namespace Go.Proofs.YtlpchcdalfkfcaaGreat
open Go.RowKit Go.ChangeShapes
attribute [local go_sem] Oper.semAt_some
set_option maxHeartbeats 8000000
set_option maxRecDepth 8000

variable {w0 w : World} {k : Mb} {s : Ms}
theorem mPut_yes (h : LivM w0 w k s) {t c i st sz nc : Int} (hs : spE t c i = 0) (hb : BkP s t) (hr : rgtR st sz = true) (hn : 0 ≤ nc ∧ nc < 4294967296) :
  Calls Tryz.prog 20 #[.pointer (some ⟨k.b, 0, none⟩), .agg #[.int .i64 t, .int .i64 c, .int .i64 i], .agg #[.int .i64 st, .int .i64 sz, .int .u32 nc]] w
   fun e w' => e = .returned (.int .i64 0) ∧ LivM w0 w' k (wrS s (-2) (spA t c i) (bytR st sz nc)) ∧ ChgM k w w' := by
 obtain ⟨b1, b2⟩ := spA_bd hs
 have ht := hb.t4
 obtain ⟨i1, i2, i3, he⟩ := spE_in hs
 have hp := place_bd c i
 have hE : putX s t c i (rgtR st sz) = 0 := by
  unfold putX
  rw [if_neg (by rw [i1, hr]; decide), if_neg (by rw [i2]; decide), if_neg (by rw [i3]; decide), if_neg (by rw [hb.op]; decide)]
 have HK := Lib.hid (And.intro hE (show rchE s.D (-2) (bkO t * 256 + placeI c i) 8 2 = 0 by rw [he]; exact hb.reach b1 (by omega) (by decide)))
 have HE := Lib.hid he
 clear hE he hs hb b1 b2 i1 i2 i3
 obtain ⟨Y, hY⟩ : ∃ Y, (w.alloc (.cells #[.int .i64 t, .int .i64 c, .int .i64 i] 23)).alloc (.cells #[.int .i64 st, .int .i64 sz, .int .u32 nc] 47) = Y := ⟨_, rfl⟩
 have hS : Blk Y w.heap.size #[.int .i64 t, .int .i64 c, .int .i64 i] 23 := by rw [← hY]; exact (Blk.new w _ _).alloc _
 have hR : Blk Y (w.heap.size + 1) #[.int .i64 st, .int .i64 sz, .int .u32 nc] 47 := by rw [← hY]; exact Blk.newAt _ _ _ (by simp)
 have kY : Below w.heap.size w Y := by rw [← hY]; exact ((Below.refl _ w).alloc (Nat.le_refl _) _).alloc (by simp) _
 replace h := h.step kY
 go_enter Tryz.func20, Tryz.ntmps20
 go_wp2_with fail
 clear hY
 obtain ⟨b5, hb5⟩ : ∃ b, w.heap.size + 1 = b := ⟨_, rfl⟩
 rw [hb5] at hR ⊢
 obtain ⟨b4, hb4⟩ : ∃ b, w.heap.size = b := ⟨_, rfl⟩
 rw [hb4] at hS ⊢
 clear hb4 hb5
 refine wp_onlyN ?_
 refine wp_region_held_drew (S := SrS b4 b5 t c i st sz nc) (by kernel_rfl) (SrS.of hS hR) (fun hHeld => ?_)
 obtain ⟨Z, hZ⟩ : ∃ Z, Y.drew = Z := ⟨_, rfl⟩
 have j : Below Y.heap.size Y Z := by rw [← hZ]; exact (Below.refl _ Y).drew
 rw [hZ] at hHeld ⊢
 clear hZ
 replace h := h.step j; replace hS := hS.below j hS.lt; replace hR := hR.below j hR.lt
 (try replace hG := hG.below j hG.lt); (try replace hC := hC.below j hC.lt); (try replace hN := hN.below j hN.lt); (try replace hI := hI.below j hI.lt)
 replace kY := kY.trans (j.mono kY.size); clear j
 obtain ⟨Y, rfl⟩ : ∃ Y : World, Y = Z := ⟨_, rfl⟩
 refine wpAnyH_take (i := 0) (v := ?_) rfl (by kernel_rfl) (by kernel_rfl) (by kernel_rfl) (fun _ _ _ h => h) (Or.inl ⟨by rfl, ?_⟩) (by assumption) ?_
 rotate_left
 ·(intro Y hSw; (try dsimp only at hSw); obtain ⟨hS0, hS1, hS2, hS3, hS4, hS5⟩ := hSw; go_simp; try with_reducible rfl)
 try simp only [Act.put, pu1, pu2, pu3, pu4, pu5, pu6]
 refine wpAnyH_take (i := 1) (v := ?_) rfl (by kernel_rfl) (by kernel_rfl) (by kernel_rfl) (fun _ _ _ h => h) (Or.inl ⟨by rfl, ?_⟩) (by assumption) ?_
 rotate_left
 ·(intro Y hSw; (try dsimp only at hSw); obtain ⟨hS0, hS1, hS2, hS3, hS4, hS5⟩ := hSw; go_simp; try with_reducible rfl)
 try simp only [Act.put, pu1, pu2, pu3, pu4, pu5, pu6]
 refine wpAnyH_take (i := 2) (v := ?_) rfl (by kernel_rfl) (by kernel_rfl) (by kernel_rfl) (fun _ _ _ h => h) (Or.inl ⟨by rfl, ?_⟩) (by assumption) ?_
 rotate_left
 ·(intro Y hSw; (try dsimp only at hSw); obtain ⟨hS0, hS1, hS2, hS3, hS4, hS5⟩ := hSw; go_simp; try with_reducible rfl)
 try simp only [Act.put, pu1, pu2, pu3, pu4, pu5, pu6]
 refine wpAnyH_take (i := 3) (v := ?_) rfl (by kernel_rfl) (by kernel_rfl) (by kernel_rfl) (fun _ _ _ h => h) (Or.inl ⟨by rfl, ?_⟩) (by assumption) ?_
 rotate_left
 ·(intro Y hSw; (try dsimp only at hSw); obtain ⟨hS0, hS1, hS2, hS3, hS4, hS5⟩ := hSw; go_simp; try with_reducible rfl)
 try simp only [Act.put, pu1, pu2, pu3, pu4, pu5, pu6]
 refine wpAnyH_take (i := 5) (v := ?_) rfl (by kernel_rfl) (by kernel_rfl) (by kernel_rfl) (fun _ _ _ h => h) (Or.inl ⟨by rfl, ?_⟩) (by assumption) ?_
 rotate_left
 ·(intro Y hSw; (try dsimp only at hSw); obtain ⟨hS0, hS1, hS2, hS3, hS4, hS5⟩ := hSw; go_simp; try with_reducible rfl)
 try simp only [Act.put, pu1, pu2, pu3, pu4, pu5, pu6]
 refine wpAnyH_take (i := 6) (v := ?_) rfl (by kernel_rfl) (by kernel_rfl) (by kernel_rfl) (fun _ _ _ h => h) (Or.inl ⟨by rfl, ?_⟩) (by assumption) ?_
 rotate_left
 ·(intro Y hSw; (try dsimp only at hSw); obtain ⟨hS0, hS1, hS2, hS3, hS4, hS5⟩ := hSw; go_simp; try with_reducible rfl)
 try simp only [Act.put, pu1, pu2, pu3, pu4, pu5, pu6]
 refine wpAnyH_take (i := 8) (v := ?_) rfl (by kernel_rfl) (by kernel_rfl) (by kernel_rfl) (fun _ _ _ h => h) (Or.inl ⟨by rfl, ?_⟩) (by assumption) ?_
 rotate_left
 ·(intro Y hSw; (try dsimp only at hSw); obtain ⟨hS0, hS1, hS2, hS3, hS4, hS5⟩ := hSw; go_simp; try with_reducible rfl)
 try simp only [Act.put, pu1, pu2, pu3, pu4, pu5, pu6]
 refine wpAnyH_take (i := 9) (v := ?_) rfl (by kernel_rfl) (by kernel_rfl) (by kernel_rfl) (fun _ _ _ h => h) (Or.inl ⟨by rfl, ?_⟩) (by assumption) ?_
 rotate_left
 ·(intro Y hSw; (try dsimp only at hSw); obtain ⟨hS0, hS1, hS2, hS3, hS4, hS5⟩ := hSw; go_simp; try with_reducible rfl)
 try simp only [Act.put, pu1, pu2, pu3, pu4, pu5, pu6]
 refine wpAnyH_take (i := 11) (v := ?_) rfl (by kernel_rfl) (by kernel_rfl) (by kernel_rfl) (fun _ _ _ h => h) (Or.inl ⟨by rfl, ?_⟩) (by assumption) ?_
 rotate_left
 ·(intro Y hSw; (try dsimp only at hSw); obtain ⟨hS0, hS1, hS2, hS3, hS4, hS5⟩ := hSw; go_simp; try with_reducible rfl)
 try simp only [Act.put, pu1, pu2, pu3, pu4, pu5, pu6]
 refine wpAnyH_take (i := 12) (v := ?_) rfl (by kernel_rfl) (by kernel_rfl) (by kernel_rfl) (fun _ _ _ h => h) (Or.inl ⟨by rfl, ?_⟩) (by assumption) ?_
 rotate_left
 ·(intro Y hSw; (try dsimp only at hSw); obtain ⟨hS0, hS1, hS2, hS3, hS4, hS5⟩ := hSw; go_simp; try with_reducible rfl)
 try simp only [Act.put, pu1, pu2, pu3, pu4, pu5, pu6]
 refine wpAnyH_take (i := 13) (v := ?_) rfl (by kernel_rfl) (by kernel_rfl) (by kernel_rfl) (fun _ _ _ h => h) (Or.inl ⟨by rfl, ?_⟩) (by assumption) ?_
 rotate_left
 ·(intro Y hSw; (try dsimp only at hSw); obtain ⟨hS0, hS1, hS2, hS3, hS4, hS5⟩ := hSw; go_simp; try with_reducible rfl)
 try simp only [Act.put, pu1, pu2, pu3, pu4, pu5, pu6]
 refine wpAnyH_take (i := 14) (v := ?_) rfl (by kernel_rfl) (by kernel_rfl) (by kernel_rfl) (fun _ _ _ h => h) (Or.inl ⟨by rfl, ?_⟩) (by assumption) ?_
 rotate_left
 ·(intro Y hSw; (try dsimp only at hSw); obtain ⟨hS0, hS1, hS2, hS3, hS4, hS5⟩ := hSw; go_simp; try with_reducible rfl)
 try simp only [Act.put, pu1, pu2, pu3, pu4, pu5, pu6]
 refine wpAnyH_ready (rs := [4]) (by kernel_rfl) (by simp) ?_
 refine AllReadyH.cons rfl (fun K hK => ?_) AllReadyH.nil
 go_simp
 refine (records_calls _).mono ?_; rintro e Z ⟨g, rfl, hG, j⟩
 replace h := h.step j; replace hS := hS.below j hS.lt; replace hR := hR.below j hR.lt
 (try replace hG := hG.below j hG.lt); (try replace hC := hC.below j hC.lt); (try replace hN := hN.below j hN.lt); (try replace hI := hI.below j hI.lt)
 replace kY := kY.trans (j.mono kY.size); clear j
 go_wp2_with fail
 refine hK.out _ _ (SrS.of hS hR) (fun hHeld => ?_)
 clear hK K
 try simp only [Act.put, pu1, pu2, pu3, pu4, pu5, pu6]
 obtain ⟨Y, rfl⟩ : ∃ Y : World, Y = Z := ⟨_, rfl⟩
 refine wpAnyH_ready (rs := [7]) (by kernel_rfl) (by simp) ?_
 refine AllReadyH.cons rfl (fun K hK => ?_) AllReadyH.nil
 go_simp
 refine (place_calls t c i _).mono ?_; rintro e Z ⟨rfl, j⟩
 replace h := h.step j; replace hS := hS.below j hS.lt; replace hR := hR.below j hR.lt
 (try replace hG := hG.below j hG.lt); (try replace hC := hC.below j hC.lt); (try replace hN := hN.below j hN.lt); (try replace hI := hI.below j hI.lt)
 replace kY := kY.trans (j.mono kY.size); clear j
 go_wp2_with fail
 refine hK.out _ _ (SrS.of hS hR) (fun hHeld => ?_)
 clear hK K
 try simp only [Act.put, pu1, pu2, pu3, pu4, pu5, pu6]
 obtain ⟨Y, rfl⟩ : ∃ Y : World, Y = Z := ⟨_, rfl⟩
 refine wpAnyH_ready (rs := [10]) (by kernel_rfl) (by simp) ?_
 refine AllReadyH.cons rfl (fun K hK => ?_) AllReadyH.nil
 go_simp
 refine (mclass_calls c _).mono ?_; rintro e Z ⟨pc, rfl, hC, j⟩
 replace h := h.step j; replace hS := hS.below j hS.lt; replace hR := hR.below j hR.lt
 (try replace hG := hG.below j hG.lt); (try replace hC := hC.below j hC.lt); (try replace hN := hN.below j hN.lt); (try replace hI := hI.below j hI.lt)
 replace kY := kY.trans (j.mono kY.size); clear j
 go_wp2_with fail
 refine hK.out _ _ (SrS.of hS hR) (fun hHeld => ?_)
 clear hK K
 try simp only [Act.put, pu1, pu2, pu3, pu4, pu5, pu6]
 obtain ⟨Y, rfl⟩ : ∃ Y : World, Y = Z := ⟨_, rfl⟩
 refine wpAnyH_ready (rs := [15]) (by kernel_rfl) (by simp) ?_
 refine AllReadyH.cons rfl (fun K hK => ?_) AllReadyH.nil
 go_simp
 refine (mindex_calls c i _).mono ?_; rintro e Z ⟨pn, pi, rfl, hN, hI, j⟩
 replace h := h.step j; replace hS := hS.below j hS.lt; replace hR := hR.below j hR.lt
 (try replace hG := hG.below j hG.lt); (try replace hC := hC.below j hC.lt); (try replace hN := hN.below j hN.lt); (try replace hI := hI.below j hI.lt)
 replace kY := kY.trans (j.mono kY.size); clear j
 go_wp2_with fail
 refine hK.out _ _ (SrS.of hS hR) (fun hHeld => ?_)
 clear hK K
 try simp only [Act.put, pu1, pu2, pu3, pu4, pu5, pu6]
 obtain ⟨Y, rfl⟩ : ∃ Y : World, Y = Z := ⟨_, rfl⟩
 refine wpAnyH_ready (rs := [16]) (by kernel_rfl) (by simp) ?_
 refine AllReadyH.cons rfl (fun K hK => ?_) AllReadyH.nil
 go_simp
 obtain ⟨gl, hgl⟩ : ∃ g, Y.heap.size = g := ⟨_, rfl⟩
 obtain ⟨Z, hZ⟩ : ∃ Z, Y.alloc (.cells (askListP (spotAsks pc pn pi c i)).toArray 70) = Z := ⟨_, rfl⟩
 have j : Below Y.heap.size Y Z := by rw [← hZ]; exact (Below.refl _ Y).alloc (Nat.le_refl _) _
 have hL : CellsAt Z gl (askListP (spotAsks pc pn pi c i)) := by rw [← hZ, ← hgl]; exact CellsAt.of (Blk.new Y _ _)
 rw [show Y.alloc (.cells #[.func (.func 63) #[] #[.pointer (some ⟨pc, 0, none⟩)], .int .i64 2, .func (.func 65) #[] #[.pointer (some ⟨pn, 0, none⟩), .pointer (some ⟨pi, 0, none⟩)], .int .i64 4] 70) = Z from hZ, hgl]
 clear hZ hgl
 replace h := h.step j; replace hS := hS.below j hS.lt; replace hR := hR.below j hR.lt
 (try replace hG := hG.below j hG.lt); (try replace hC := hC.below j hC.lt); (try replace hN := hN.below j hN.lt); (try replace hI := hI.below j hI.lt)
 replace kY := kY.trans (j.mono kY.size); clear j
 refine hK.out _ _ (SrS.of hS hR) (fun hHeld => ?_)
 clear hK K
 try simp only [Act.put, pu1, pu2, pu3, pu4, pu5, pu6]
 obtain ⟨Y, rfl⟩ : ∃ Y : World, Y = Z := ⟨_, rfl⟩
 have hans := spot_answers hC hN hI
 refine wpAnyH_ready (rs := [17]) (by kernel_rfl) (by simp) ?_
 refine AllReadyH.cons rfl (fun K hK => ?_) AllReadyH.nil
 go_simp
 refine (mputR_yes h t st sz nc (placeI c i) hp.1 hp.2 hn g gl hG (spotAsks pc pn pi c i) (by simp [spotAsks]) (by simp [spotAsks]) hL hans (by rw [putX_eq]; exact HK.out.1) HK.out.2).mono ?_; rintro e Z ⟨rfl, h9, c9⟩
 replace hS := c9.cells h.m hS
 replace hR := c9.cells h.m hR
 have cY := (ChgM.of_below kY).trans c9
 rw [HE.out] at h9
 clear hL hans h c9 hG hC hN hI
 go_wp2_with fail
 refine hK.out _ _ (SrS.of hS hR) (fun hHeld => ?_)
 clear hK K
 try simp only [Act.put, pu1, pu2, pu3, pu4, pu5, pu6]
 refine wpAnyH_take (i := 18) (v := ?_) rfl (by kernel_rfl) (by kernel_rfl) (by kernel_rfl) (fun _ _ _ h => h) (Or.inl ⟨by rfl, ?_⟩) (by assumption) ?_
 rotate_left
 ·(intro Y hSw; (try dsimp only at hSw); obtain ⟨hS0, hS1, hS2, hS3, hS4, hS5⟩ := hSw; go_simp; try with_reducible rfl)
 try simp only [Act.put, pu1, pu2, pu3, pu4, pu5, pu6]
 refine wpAnyH_done (by kernel_rfl) ?_ _
 rw [onlyN_normal]
 go_wp2_with fail
 go_ret
 exact ⟨rfl, h9, cY⟩
structure GgS (b7 : Nat) (st pg sz fi : Int) (Y : World) : Prop where
 h0 : Y.cell? ⟨b7, 0, none⟩ = some (.int .i64 st)
 h1 : Y.cell? ⟨b7, 1, none⟩ = some (.int .i64 pg)
 h2 : Y.cell? ⟨b7, 2, none⟩ = some (.int .i64 sz)
 h3 : Y.cell? ⟨b7, 3, none⟩ = some (.int .i64 fi)
theorem GgS.of {b7 : Nat} {st pg sz fi : Int} {Y : World} {ty : TypeId} (h : Blk Y b7 #[.int .i64 st, .int .i64 pg, .int .i64 sz, .int .i64 fi] ty) : GgS b7 st pg sz fi Y := ⟨h.cell 0 rfl, h.cell 1 rfl, h.cell 2 rfl, h.cell 3 rfl⟩
def putGX (s : Ms) (t i : Int) (rg : Bool) : Int := if inB 3 t = false ∨ rg = false then 2 else getG s t i
theorem mputGX_eq (pi : Nat) (s : Ms) (t i : Int) (rg : Bool) : putE s t (!rg) (grtAsks pi i) = putGX s t i rg := mputGE_eq pi s t i rg
theorem mPutG_no (h : LivM w0 w k s) (t i st pg sz fi : Int) (hE : putGX s t i (rgtG st pg sz fi) ≠ 0) :
  Calls Tryz.prog 21 #[.pointer (some ⟨k.b, 0, none⟩), .int .i64 t, .int .i64 i, .agg #[.int .i64 st, .int .i64 pg, .int .i64 sz, .int .i64 fi]] w
   fun e w' => e = .returned (.int .i64 (putGX s t i (rgtG st pg sz fi))) ∧ Below w.heap.size w w' := by
 obtain ⟨Y, hY⟩ : ∃ Y, w.alloc (.cells #[.int .i64 st, .int .i64 pg, .int .i64 sz, .int .i64 fi] 54) = Y := ⟨_, rfl⟩
 have hR : Blk Y w.heap.size #[.int .i64 st, .int .i64 pg, .int .i64 sz, .int .i64 fi] 54 := by rw [← hY]; exact Blk.new w _ _
 have kY : Below w.heap.size w Y := by rw [← hY]; exact (Below.refl _ w).alloc (Nat.le_refl _) _
 replace h := h.step kY
 go_enter Tryz.func21, Tryz.ntmps21
 go_wp2_with fail
 clear hY
 obtain ⟨b7, hb7⟩ : ∃ b, w.heap.size = b := ⟨_, rfl⟩
 rw [hb7] at hR ⊢
 clear hb7
 refine wp_onlyN ?_
 refine wp_region_held_drew (S := GgS b7 st pg sz fi) (by kernel_rfl) (GgS.of hR) (fun hHeld => ?_)
 obtain ⟨Z, hZ⟩ : ∃ Z, Y.drew = Z := ⟨_, rfl⟩
 have j : Below Y.heap.size Y Z := by rw [← hZ]; exact (Below.refl _ Y).drew
 rw [hZ] at hHeld ⊢
 clear hZ
 replace h := h.step j; replace hR := hR.below j hR.lt
 (try replace hG := hG.below j hG.lt); (try replace hI := hI.below j hI.lt)
 replace kY := kY.trans (j.mono kY.size); clear j
 obtain ⟨Y, rfl⟩ : ∃ Y : World, Y = Z := ⟨_, rfl⟩
 refine wpAnyH_take (i := 0) (v := ?_) rfl (by kernel_rfl) (by kernel_rfl) (by kernel_rfl) (fun _ _ _ h => h) (Or.inl ⟨by rfl, ?_⟩) (by assumption) ?_
 rotate_left
 ·(intro Y hSw; (try dsimp only at hSw); obtain ⟨hS0, hS1, hS2, hS3⟩ := hSw; go_simp; try with_reducible rfl)
 try simp only [Act.put, pu1, pu2, pu3, pu4, pu5, pu6]
 refine wpAnyH_take (i := 1) (v := ?_) rfl (by kernel_rfl) (by kernel_rfl) (by kernel_rfl) (fun _ _ _ h => h) (Or.inl ⟨by rfl, ?_⟩) (by assumption) ?_
 rotate_left
 ·(intro Y hSw; (try dsimp only at hSw); obtain ⟨hS0, hS1, hS2, hS3⟩ := hSw; go_simp; try with_reducible rfl)
 try simp only [Act.put, pu1, pu2, pu3, pu4, pu5, pu6]
 refine wpAnyH_take (i := 2) (v := ?_) rfl (by kernel_rfl) (by kernel_rfl) (by kernel_rfl) (fun _ _ _ h => h) (Or.inl ⟨by rfl, ?_⟩) (by assumption) ?_
 rotate_left
 ·(intro Y hSw; (try dsimp only at hSw); obtain ⟨hS0, hS1, hS2, hS3⟩ := hSw; go_simp; try with_reducible rfl)
 try simp only [Act.put, pu1, pu2, pu3, pu4, pu5, pu6]
 refine wpAnyH_take (i := 4) (v := ?_) rfl (by kernel_rfl) (by kernel_rfl) (by kernel_rfl) (fun _ _ _ h => h) (Or.inl ⟨by rfl, ?_⟩) (by assumption) ?_
 rotate_left
 ·(intro Y hSw; (try dsimp only at hSw); obtain ⟨hS0, hS1, hS2, hS3⟩ := hSw; go_simp; try with_reducible rfl)
 try simp only [Act.put, pu1, pu2, pu3, pu4, pu5, pu6]
 refine wpAnyH_take (i := 5) (v := ?_) rfl (by kernel_rfl) (by kernel_rfl) (by kernel_rfl) (fun _ _ _ h => h) (Or.inl ⟨by rfl, ?_⟩) (by assumption) ?_
 rotate_left
 ·(intro Y hSw; (try dsimp only at hSw); obtain ⟨hS0, hS1, hS2, hS3⟩ := hSw; go_simp; try with_reducible rfl)
 try simp only [Act.put, pu1, pu2, pu3, pu4, pu5, pu6]
 refine wpAnyH_take (i := 7) (v := ?_) rfl (by kernel_rfl) (by kernel_rfl) (by kernel_rfl) (fun _ _ _ h => h) (Or.inl ⟨by rfl, ?_⟩) (by assumption) ?_
 rotate_left
 ·(intro Y hSw; (try dsimp only at hSw); obtain ⟨hS0, hS1, hS2, hS3⟩ := hSw; go_simp; try with_reducible rfl)
 try simp only [Act.put, pu1, pu2, pu3, pu4, pu5, pu6]
 refine wpAnyH_ready (rs := [3]) (by kernel_rfl) (by simp) ?_
 refine AllReadyH.cons rfl (fun K hK => ?_) AllReadyH.nil
 go_simp
 refine (greats_calls _).mono ?_; rintro e Z ⟨g, rfl, hG, j⟩
 replace h := h.step j; replace hR := hR.below j hR.lt
 (try replace hG := hG.below j hG.lt); (try replace hI := hI.below j hI.lt)
 replace kY := kY.trans (j.mono kY.size); clear j
 go_wp2_with fail
 refine hK.out _ _ (GgS.of hR) (fun hHeld => ?_)
 clear hK K
 try simp only [Act.put, pu1, pu2, pu3, pu4, pu5, pu6]
 obtain ⟨Y, rfl⟩ : ∃ Y : World, Y = Z := ⟨_, rfl⟩
 refine wpAnyH_ready (rs := [6]) (by kernel_rfl) (by simp) ?_
 refine AllReadyH.cons rfl (fun K hK => ?_) AllReadyH.nil
 go_simp
 refine (far_calls i _).mono ?_; rintro e _ ⟨rfl, rfl⟩
 go_wp2_with fail
 refine hK.out _ _ (GgS.of hR) (fun hHeld => ?_)
 clear hK K
 try simp only [Act.put, pu1, pu2, pu3, pu4, pu5, pu6]
 refine wpAnyH_ready (rs := [8]) (by kernel_rfl) (by simp) ?_
 refine AllReadyH.cons rfl (fun K hK => ?_) AllReadyH.nil
 go_simp
 refine (greatly_calls i _).mono ?_; rintro e Z ⟨pi, rfl, hI, j⟩
 replace h := h.step j; replace hR := hR.below j hR.lt
 (try replace hG := hG.below j hG.lt); (try replace hI := hI.below j hI.lt)
 replace kY := kY.trans (j.mono kY.size); clear j
 go_wp2_with fail
 refine hK.out _ _ (GgS.of hR) (fun hHeld => ?_)
 clear hK K
 try simp only [Act.put, pu1, pu2, pu3, pu4, pu5, pu6]
 obtain ⟨Y, rfl⟩ : ∃ Y : World, Y = Z := ⟨_, rfl⟩
 refine wpAnyH_ready (rs := [9]) (by kernel_rfl) (by simp) ?_
 refine AllReadyH.cons rfl (fun K hK => ?_) AllReadyH.nil
 go_simp
 obtain ⟨gl, hgl⟩ : ∃ g, Y.heap.size = g := ⟨_, rfl⟩
 obtain ⟨Z, hZ⟩ : ∃ Z, Y.alloc (.cells (askListP (grtAsks pi i)).toArray 70) = Z := ⟨_, rfl⟩
 have j : Below Y.heap.size Y Z := by rw [← hZ]; exact (Below.refl _ Y).alloc (Nat.le_refl _) _
 have hL : CellsAt Z gl (askListP (grtAsks pi i)) := by rw [← hZ, ← hgl]; exact CellsAt.of (Blk.new Y _ _)
 rw [show Y.alloc (.cells #[.func (.func 123) #[] #[.pointer (some ⟨pi, 0, none⟩)], .int .i64 4] 70) = Z from hZ, hgl]
 clear hZ hgl
 replace h := h.step j; replace hR := hR.below j hR.lt
 (try replace hG := hG.below j hG.lt); (try replace hI := hI.below j hI.lt)
 replace kY := kY.trans (j.mono kY.size); clear j
 refine hK.out _ _ (GgS.of hR) (fun hHeld => ?_)
 clear hK K
 try simp only [Act.put, pu1, pu2, pu3, pu4, pu5, pu6]
 obtain ⟨Y, rfl⟩ : ∃ Y : World, Y = Z := ⟨_, rfl⟩
 have hans := grt_answers hI
 refine wpAnyH_ready (rs := [10]) (by kernel_rfl) (by simp) ?_
 refine AllReadyH.cons rfl (fun K hK => ?_) AllReadyH.nil
 go_simp
 refine (mputG_no h t st pg sz fi (farI i) g gl (grtAsks pi i) (by simp [grtAsks]) (by simp [grtAsks]) hL hans (by rw [mputGX_eq]; exact hE)).mono ?_; rintro e Z ⟨rfl, j⟩
 rw [mputGX_eq]
 clear hL hans
 replace h := h.step j; replace hR := hR.below j hR.lt
 (try replace hG := hG.below j hG.lt); (try replace hI := hI.below j hI.lt)
 replace kY := kY.trans (j.mono kY.size); clear j
 go_wp2_with fail
 refine hK.out _ _ (GgS.of hR) (fun hHeld => ?_)
 clear hK K
 try simp only [Act.put, pu1, pu2, pu3, pu4, pu5, pu6]
 refine wpAnyH_take (i := 11) (v := ?_) rfl (by kernel_rfl) (by kernel_rfl) (by kernel_rfl) (fun _ _ _ h => h) (Or.inl ⟨by rfl, ?_⟩) (by assumption) ?_
 rotate_left
 ·(intro Y hSw; (try dsimp only at hSw); obtain ⟨hS0, hS1, hS2, hS3⟩ := hSw; go_simp; try with_reducible rfl)
 try simp only [Act.put, pu1, pu2, pu3, pu4, pu5, pu6]
 refine wpAnyH_done (by kernel_rfl) ?_ _
 rw [onlyN_normal]
 go_wp2_with fail
 go_ret
 exact ⟨rfl, kY⟩
theorem putGX_zero {s : Ms} {t i : Int} (h : 0 ≤ i ∧ i ≤ 383) (hb : BkP s t) : putGX s t i true = 0 := by
 unfold putGX getG
 rw [if_neg (by rw [inB3 hb.t4]; decide), if_neg (by rw [inB3 hb.t4]; decide), if_neg (by rw [inB_iff.2 h]; decide), if_neg (by rw [hb.op]; decide)]
theorem mPutG_yes (h : LivM w0 w k s) {t i st pg sz fi : Int} (hi : 0 ≤ i ∧ i ≤ 383) (hb : BkP s t) (hr : rgtG st pg sz fi = true) :
  Calls Tryz.prog 21 #[.pointer (some ⟨k.b, 0, none⟩), .int .i64 t, .int .i64 i, .agg #[.int .i64 st, .int .i64 pg, .int .i64 sz, .int .i64 fi]] w
   fun e w' => e = .returned (.int .i64 0) ∧ LivM w0 w' k (wrS s (-2) (grA t i) (bytG st pg sz fi)) ∧ ChgM k w w' := by
 obtain ⟨b1, b2⟩ := grA_bd (t := t) hi
 have ht := hb.t4
 have he : bkO t * 256 + farI i = grA t i := far_in ht hi
 have hp := far_bd i
 have hE : putE s t (!rgtG st pg sz fi) (grtAsks 0 i) = 0 := by rw [mputGE_eq, hr]; exact putGX_zero hi hb
 have HK := Lib.hid (show rchE s.D (-2) (bkO t * 256 + farI i) 16 2 = 0 by rw [he]; exact hb.reach (by omega) (by omega) (by decide))
 have HE := Lib.hid (And.intro he (show ∀ pi, putE s t (!rgtG st pg sz fi) (grtAsks pi i) = 0 from fun pi => by rw [mputGE_eq, hr]; exact putGX_zero hi hb))
 clear he hE hb b1 b2
 obtain ⟨Y, hY⟩ : ∃ Y, w.alloc (.cells #[.int .i64 st, .int .i64 pg, .int .i64 sz, .int .i64 fi] 54) = Y := ⟨_, rfl⟩
 have hR : Blk Y w.heap.size #[.int .i64 st, .int .i64 pg, .int .i64 sz, .int .i64 fi] 54 := by rw [← hY]; exact Blk.new w _ _
 have kY : Below w.heap.size w Y := by rw [← hY]; exact (Below.refl _ w).alloc (Nat.le_refl _) _
 replace h := h.step kY
 go_enter Tryz.func21, Tryz.ntmps21
 go_wp2_with fail
 clear hY
 obtain ⟨b7, hb7⟩ : ∃ b, w.heap.size = b := ⟨_, rfl⟩
 rw [hb7] at hR ⊢
 clear hb7
 refine wp_onlyN ?_
 refine wp_region_held_drew (S := GgS b7 st pg sz fi) (by kernel_rfl) (GgS.of hR) (fun hHeld => ?_)
 obtain ⟨Z, hZ⟩ : ∃ Z, Y.drew = Z := ⟨_, rfl⟩
 have j : Below Y.heap.size Y Z := by rw [← hZ]; exact (Below.refl _ Y).drew
 rw [hZ] at hHeld ⊢
 clear hZ
 replace h := h.step j; replace hR := hR.below j hR.lt
 (try replace hG := hG.below j hG.lt); (try replace hI := hI.below j hI.lt)
 replace kY := kY.trans (j.mono kY.size); clear j
 obtain ⟨Y, rfl⟩ : ∃ Y : World, Y = Z := ⟨_, rfl⟩
 refine wpAnyH_take (i := 0) (v := ?_) rfl (by kernel_rfl) (by kernel_rfl) (by kernel_rfl) (fun _ _ _ h => h) (Or.inl ⟨by rfl, ?_⟩) (by assumption) ?_
 rotate_left
 ·(intro Y hSw; (try dsimp only at hSw); obtain ⟨hS0, hS1, hS2, hS3⟩ := hSw; go_simp; try with_reducible rfl)
 try simp only [Act.put, pu1, pu2, pu3, pu4, pu5, pu6]
 refine wpAnyH_take (i := 1) (v := ?_) rfl (by kernel_rfl) (by kernel_rfl) (by kernel_rfl) (fun _ _ _ h => h) (Or.inl ⟨by rfl, ?_⟩) (by assumption) ?_
 rotate_left
 ·(intro Y hSw; (try dsimp only at hSw); obtain ⟨hS0, hS1, hS2, hS3⟩ := hSw; go_simp; try with_reducible rfl)
 try simp only [Act.put, pu1, pu2, pu3, pu4, pu5, pu6]
 refine wpAnyH_take (i := 2) (v := ?_) rfl (by kernel_rfl) (by kernel_rfl) (by kernel_rfl) (fun _ _ _ h => h) (Or.inl ⟨by rfl, ?_⟩) (by assumption) ?_
 rotate_left
 ·(intro Y hSw; (try dsimp only at hSw); obtain ⟨hS0, hS1, hS2, hS3⟩ := hSw; go_simp; try with_reducible rfl)
 try simp only [Act.put, pu1, pu2, pu3, pu4, pu5, pu6]
 refine wpAnyH_take (i := 4) (v := ?_) rfl (by kernel_rfl) (by kernel_rfl) (by kernel_rfl) (fun _ _ _ h => h) (Or.inl ⟨by rfl, ?_⟩) (by assumption) ?_
 rotate_left
 ·(intro Y hSw; (try dsimp only at hSw); obtain ⟨hS0, hS1, hS2, hS3⟩ := hSw; go_simp; try with_reducible rfl)
 try simp only [Act.put, pu1, pu2, pu3, pu4, pu5, pu6]
 refine wpAnyH_take (i := 5) (v := ?_) rfl (by kernel_rfl) (by kernel_rfl) (by kernel_rfl) (fun _ _ _ h => h) (Or.inl ⟨by rfl, ?_⟩) (by assumption) ?_
 rotate_left
 ·(intro Y hSw; (try dsimp only at hSw); obtain ⟨hS0, hS1, hS2, hS3⟩ := hSw; go_simp; try with_reducible rfl)
 try simp only [Act.put, pu1, pu2, pu3, pu4, pu5, pu6]
 refine wpAnyH_take (i := 7) (v := ?_) rfl (by kernel_rfl) (by kernel_rfl) (by kernel_rfl) (fun _ _ _ h => h) (Or.inl ⟨by rfl, ?_⟩) (by assumption) ?_
 rotate_left
 ·(intro Y hSw; (try dsimp only at hSw); obtain ⟨hS0, hS1, hS2, hS3⟩ := hSw; go_simp; try with_reducible rfl)
 try simp only [Act.put, pu1, pu2, pu3, pu4, pu5, pu6]
 refine wpAnyH_ready (rs := [3]) (by kernel_rfl) (by simp) ?_
 refine AllReadyH.cons rfl (fun K hK => ?_) AllReadyH.nil
 go_simp
 refine (greats_calls _).mono ?_; rintro e Z ⟨g, rfl, hG, j⟩
 replace h := h.step j; replace hR := hR.below j hR.lt
 (try replace hG := hG.below j hG.lt); (try replace hI := hI.below j hI.lt)
 replace kY := kY.trans (j.mono kY.size); clear j
 go_wp2_with fail
 refine hK.out _ _ (GgS.of hR) (fun hHeld => ?_)
 clear hK K
 try simp only [Act.put, pu1, pu2, pu3, pu4, pu5, pu6]
 obtain ⟨Y, rfl⟩ : ∃ Y : World, Y = Z := ⟨_, rfl⟩
 refine wpAnyH_ready (rs := [6]) (by kernel_rfl) (by simp) ?_
 refine AllReadyH.cons rfl (fun K hK => ?_) AllReadyH.nil
 go_simp
 refine (far_calls i _).mono ?_; rintro e _ ⟨rfl, rfl⟩
 go_wp2_with fail
 refine hK.out _ _ (GgS.of hR) (fun hHeld => ?_)
 clear hK K
 try simp only [Act.put, pu1, pu2, pu3, pu4, pu5, pu6]
 refine wpAnyH_ready (rs := [8]) (by kernel_rfl) (by simp) ?_
 refine AllReadyH.cons rfl (fun K hK => ?_) AllReadyH.nil
 go_simp
 refine (greatly_calls i _).mono ?_; rintro e Z ⟨pi, rfl, hI, j⟩
 replace h := h.step j; replace hR := hR.below j hR.lt
 (try replace hG := hG.below j hG.lt); (try replace hI := hI.below j hI.lt)
 replace kY := kY.trans (j.mono kY.size); clear j
 go_wp2_with fail
 refine hK.out _ _ (GgS.of hR) (fun hHeld => ?_)
 clear hK K
 try simp only [Act.put, pu1, pu2, pu3, pu4, pu5, pu6]
 obtain ⟨Y, rfl⟩ : ∃ Y : World, Y = Z := ⟨_, rfl⟩
 refine wpAnyH_ready (rs := [9]) (by kernel_rfl) (by simp) ?_
 refine AllReadyH.cons rfl (fun K hK => ?_) AllReadyH.nil
 go_simp
 obtain ⟨gl, hgl⟩ : ∃ g, Y.heap.size = g := ⟨_, rfl⟩
 obtain ⟨Z, hZ⟩ : ∃ Z, Y.alloc (.cells (askListP (grtAsks pi i)).toArray 70) = Z := ⟨_, rfl⟩
 have j : Below Y.heap.size Y Z := by rw [← hZ]; exact (Below.refl _ Y).alloc (Nat.le_refl _) _
 have hL : CellsAt Z gl (askListP (grtAsks pi i)) := by rw [← hZ, ← hgl]; exact CellsAt.of (Blk.new Y _ _)
 rw [show Y.alloc (.cells #[.func (.func 123) #[] #[.pointer (some ⟨pi, 0, none⟩)], .int .i64 4] 70) = Z from hZ, hgl]
 clear hZ hgl
 replace h := h.step j; replace hR := hR.below j hR.lt
 (try replace hG := hG.below j hG.lt); (try replace hI := hI.below j hI.lt)
 replace kY := kY.trans (j.mono kY.size); clear j
 refine hK.out _ _ (GgS.of hR) (fun hHeld => ?_)
 clear hK K
 try simp only [Act.put, pu1, pu2, pu3, pu4, pu5, pu6]
 obtain ⟨Y, rfl⟩ : ∃ Y : World, Y = Z := ⟨_, rfl⟩
 have hans := grt_answers hI
 refine wpAnyH_ready (rs := [10]) (by kernel_rfl) (by simp) ?_
 refine AllReadyH.cons rfl (fun K hK => ?_) AllReadyH.nil
 go_simp
 refine (mputG_yes h t st pg sz fi (farI i) (by omega) (by omega) g gl hG (grtAsks pi i) (by simp [grtAsks]) (by simp [grtAsks]) hL hans (HE.out.2 pi) HK.out).mono ?_; rintro e Z ⟨rfl, h9, c9⟩
 replace hR := c9.cells h.m hR
 have cY := (ChgM.of_below kY).trans c9
 rw [HE.out.1] at h9
 clear hL hans h c9 hG hI
 go_wp2_with fail
 refine hK.out _ _ (GgS.of hR) (fun hHeld => ?_)
 clear hK K
 try simp only [Act.put, pu1, pu2, pu3, pu4, pu5, pu6]
 refine wpAnyH_take (i := 11) (v := ?_) rfl (by kernel_rfl) (by kernel_rfl) (by kernel_rfl) (fun _ _ _ h => h) (Or.inl ⟨by rfl, ?_⟩) (by assumption) ?_
 rotate_left
 ·(intro Y hSw; (try dsimp only at hSw); obtain ⟨hS0, hS1, hS2, hS3⟩ := hSw; go_simp; try with_reducible rfl)
 try simp only [Act.put, pu1, pu2, pu3, pu4, pu5, pu6]
 refine wpAnyH_done (by kernel_rfl) ?_ _
 rw [onlyN_normal]
 go_wp2_with fail
 go_ret
 exact ⟨rfl, h9, cY⟩
end Go.Proofs.YtlpchcdalfkfcaaGreat

