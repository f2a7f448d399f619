/-
 Package meta: Put that is refused. Conditions: a memory's books in order.
-/
import Derived.Test.YtlpchcdalfkfcaaGreatBMeM
namespace Go.Proofs.YtlpchcdalfkfcaaGreat
open Go.RowKit Go.ChangeShapes
attribute [local go_sem] Oper.semAt_some
set_option maxHeartbeats 8000000
set_option maxRecDepth 8000

variable {w0 w : World} {k : Mb} {s : Ms}
theorem shpR_info : (Tryz.prog.info? 106).map (·.size) = some 2 := by kernel_rfl
theorem ret_shR {fn : Func} {R : Ending → World → Prop} {a : Act} {w : World} {p : Tmp} (h : fn.results = #[.cell p 106]) (g : Nat) {cs : Array Value} {t : TypeId} (hp : a.tmps.getD p undef = .pointer (some ⟨g, 0, none⟩))
  (hB : Blk w g cs t) (hs : cs.size = 2) (hd : a.defers = []) (hR : R (.returned (.agg cs)) w) : bodyPost Tryz.prog fn R .ret a w := by
 refine bodyPost_ret (v := .agg cs) ?_ hd hR
 have hp' : a.tmps[p]?.getD undef = .pointer (some ⟨g, 0, none⟩) := by simpa using hp
 have hl : (loadVar 106 ⟨g, 0, none⟩).run Tryz.prog w = .ok (.agg cs) w := run_loadVar_row w g t _ cs (0, 0) _ hB Tryz.underlying106 rfl (by rw [hs]; exact shpR_info)
 simp [results, h, hp', asAddr, hl]
theorem records_calls (w : World) : Calls Tryz.prog 52 #[] w fun e w' => ∃ g, e = .returned (.agg #[.slice (some ⟨g, 0, none⟩) 4 4, .func (.func 111) #[] #[]]) ∧ Blk w' g parR 170 ∧ Below w.heap.size w w' := by
 go_enter Tryz.func52, Tryz.ntmps52
 go_wp2_with fail
 exact ret_shR Tryz.results52 w.heap.size (by rfl) ((Blk.new w _ _).alloc _) rfl rfl ⟨_, rfl, Blk.newAt _ _ _ (by simp), ((Below.refl _ w).alloc (Nat.le_refl _) _).alloc (by simp) _⟩
def placeI (c i : Int) : Int := if inB 7 c = true ∧ inB 65535 i = true then 768 * c + 8 * i else 0
theorem place_calls (t c i : Int) (w : World) : Calls Tryz.prog 53 #[.agg #[.int .i64 t, .int .i64 c, .int .i64 i]] w fun e w' => e = .returned (.int .i64 (placeI c i)) ∧ Below w.heap.size w w' := by
 obtain ⟨w1, hw1⟩ : ∃ w1, w.alloc (.cells #[.int .i64 t, .int .i64 c, .int .i64 i] 23) = w1 := ⟨_, rfl⟩
 have hB : Blk w1 w.heap.size #[.int .i64 t, .int .i64 c, .int .i64 i] 23 := by rw [← hw1]; exact Blk.new w _ _
 have k1 : Below w.heap.size w w1 := by rw [← hw1]; exact (Below.refl _ w).alloc (Nat.le_refl _) _
 have c1 := hB.cell 1 (v := .int .i64 c) rfl
 have c2 := hB.cell 2 (v := .int .i64 i) rfl
 go_enter Tryz.func53, Tryz.ntmps53
 go_wp2_with fail
 clear hw1
 refine (mfits_one 7 c w1).mono ?_; rintro e w2 ⟨rfl, k2⟩
 have hB2 := hB.below k2 hB.lt
 have kk := k1.trans (k2.mono k1.size)
 clear c1 c2 k2 hB k1
 have c1 := hB2.cell 1 (v := .int .i64 c) rfl
 have c2 := hB2.cell 2 (v := .int .i64 i) rfl
 cases hs : inB 7 c
 ·have HS := Lib.hid (show placeI c i = 0 by unfold placeI; rw [hs]; rfl)
  clear hs
  go_wp2_with fail
  go_ret
  exact ⟨by rw [HS.out]; rfl, kk⟩
 ·go_wp2_with fail
  refine (mfits_one 65535 i w2).mono ?_; rintro e w3 ⟨rfl, k3⟩
  have hB3 := hB2.below k3 hB2.lt
  have k4 := kk.trans (k3.mono kk.size)
  clear c1 c2 k3 hB2 kk
  have c1 := hB3.cell 1 (v := .int .i64 c) rfl
  have c2 := hB3.cell 2 (v := .int .i64 i) rfl
  cases hi : inB 65535 i
  ·have HS := Lib.hid (show placeI c i = 0 by unfold placeI; rw [hs, hi]; rfl)
   clear hs hi
   go_wp2_with fail
   go_ret
   exact ⟨by rw [HS.out]; rfl, k4⟩
  ·have HS := Lib.hid (show placeI c i = 768 * c + 8 * i by unfold placeI; rw [if_pos ⟨hs, hi⟩])
   obtain ⟨a0, a1⟩ := inB_iff.1 hs
   obtain ⟨b0, b1⟩ := inB_iff.1 hi
   clear hs hi
   go_wp2_with fail
   go_ret
   refine ⟨?_, k4⟩
   rw [HS.out]
   show Ending.returned (.int .i64 (3 * c * 256 + 8 * i)) = _
   rw [show 3 * c * 256 + 8 * i = 768 * c + 8 * i by omega]
theorem place_bd (c i : Int) : 0 ≤ placeI c i ∧ placeI c i ≤ 600000 := by
 unfold placeI
 split
 ·next h =>
  have := inB_iff.1 h.1
  have := inB_iff.1 h.2
  omega
 ·omega
def spotAsks (pc pn pi : Nat) (c i : Int) : List AskP :=
 [⟨63, #[], #[.pointer (some ⟨pc, 0, none⟩)], 2, !inB 7 c⟩, ⟨65, #[], #[.pointer (some ⟨pn, 0, none⟩), .pointer (some ⟨pi, 0, none⟩)], 4, !inB (cntO c - 1) i⟩]
theorem spot_answers {W : World} {pc pn pi : Nat} {c i : Int} (hC : Blk W pc #[.int .i64 c] 3) (hN : Blk W pn #[.int .i64 (cntO c)] 3) (hI : Blk W pi #[.int .i64 i] 3) : AnswersP W (spotAsks pc pn pi c i) := by
 constructor
 ·intro i h args W
  match i, h with
  | 0, _ => exact enters_of Tryz.func63 (by kernel_rfl) rfl args W
  | 1, _ => exact enters_of Tryz.func65 (by kernel_rfl) rfl args W
 ·intro j hj X _ kx
  match j, hj with
  | 0, _ => exact mclass1_calls (hC.below kx hC.lt)
  | 1, _ => exact mindex1_calls (cntO_bd c).1 (cntO_bd c).2 (hN.below kx hN.lt) (hI.below kx hI.lt)
def putX (s : Ms) (t c i : Int) (rg : Bool) : Int := if inB 3 t = false ∨ rg = false then 2 else if inB 7 c = false then 2 else if inB (cntO c - 1) i = false then 4 else if opB s t = false then 5 else 0
theorem putX_eq (pc pn pi : Nat) (s : Ms) (t c i : Int) (rg : Bool) : putE s t (!rg) (spotAsks pc pn pi c i) = putX s t c i rg := by
 unfold putE putX spotAsks
 cases inB 3 t <;> cases rg <;> cases inB 7 c <;> cases inB (cntO c - 1) i <;> cases opB s t <;> simp [firstErrP]
structure SrS (b4 b5 : Nat) (t c i st sz nc : Int) (Y : World) : Prop where
 h0 : Y.cell? ⟨b4, 0, none⟩ = some (.int .i64 t)
 h1 : Y.cell? ⟨b4, 1, none⟩ = some (.int .i64 c)
 h2 : Y.cell? ⟨b4, 2, none⟩ = some (.int .i64 i)
 h3 : Y.cell? ⟨b5, 0, none⟩ = some (.int .i64 st)
 h4 : Y.cell? ⟨b5, 1, none⟩ = some (.int .i64 sz)
 h5 : Y.cell? ⟨b5, 2, none⟩ = some (.int .u32 nc)
theorem SrS.of {b4 b5 : Nat} {t c i st sz nc : Int} {Y : World} {ty ty' : TypeId} (h : Blk Y b4 #[.int .i64 t, .int .i64 c, .int .i64 i] ty) (h' : Blk Y b5 #[.int .i64 st, .int .i64 sz, .int .u32 nc] ty') : SrS b4 b5 t c i st sz nc Y :=
 ⟨h.cell 0 rfl, h.cell 1 rfl, h.cell 2 rfl, h'.cell 0 rfl, h'.cell 1 rfl, h'.cell 2 rfl⟩
theorem mPut_no (h : LivM w0 w k s) (t c i st sz nc : Int) (hE : putX s t c i (rgtR st sz) ≠ 0) :
  Calls Tryz.prog 20 #[.pointer (some ⟨k.b, 0, none⟩), .agg #[.int .i64 t, .int .i64 c, .int .i64 i], .agg #[.int .i64 st, .int .i64 sz, .int .u32 nc]] w
   fun e w' => e = .returned (.int .i64 (putX s t c i (rgtR st sz))) ∧ Below w.heap.size w w' := by
 obtain ⟨Y, hY⟩ : ∃ Y, (w.alloc (.cells #[.int .i64 t, .int .i64 c, .int .i64 i] 23)).alloc (.cells #[.int .i64 st, .int .i64 sz, .int .u32 nc] 47) = Y := ⟨_, rfl⟩
 have hS : Blk Y w.heap.size #[.int .i64 t, .int .i64 c, .int .i64 i] 23 := by rw [← hY]; exact (Blk.new w _ _).alloc _
 have hR : Blk Y (w.heap.size + 1) #[.int .i64 st, .int .i64 sz, .int .u32 nc] 47 := by rw [← hY]; exact Blk.newAt _ _ _ (by simp)
 have kY : Below w.heap.size w Y := by rw [← hY]; exact ((Below.refl _ w).alloc (Nat.le_refl _) _).alloc (by simp) _
 replace h := h.step kY
 go_enter Tryz.func20, Tryz.ntmps20
 go_wp2_with fail
 clear hY
 obtain ⟨b5, hb5⟩ : ∃ b, w.heap.size + 1 = b := ⟨_, rfl⟩
 rw [hb5] at hR ⊢
 obtain ⟨b4, hb4⟩ : ∃ b, w.heap.size = b := ⟨_, rfl⟩
 rw [hb4] at hS ⊢
 clear hb4 hb5
 refine wp_onlyN ?_
 refine wp_region_held_drew (S := SrS b4 b5 t c i st sz nc) (by kernel_rfl) (SrS.of hS hR) (fun hHeld => ?_)
 obtain ⟨Z, hZ⟩ : ∃ Z, Y.drew = Z := ⟨_, rfl⟩
 have j : Below Y.heap.size Y Z := by rw [← hZ]; exact (Below.refl _ Y).drew
 rw [hZ] at hHeld ⊢
 clear hZ
 replace h := h.step j; replace hS := hS.below j hS.lt; replace hR := hR.below j hR.lt
 (try replace hG := hG.below j hG.lt); (try replace hC := hC.below j hC.lt); (try replace hN := hN.below j hN.lt); (try replace hI := hI.below j hI.lt)
 replace kY := kY.trans (j.mono kY.size); clear j
 obtain ⟨Y, rfl⟩ : ∃ Y : World, Y = Z := ⟨_, rfl⟩
 refine wpAnyH_take (i := 0) (v := ?_) rfl (by kernel_rfl) (by kernel_rfl) (by kernel_rfl) (fun _ _ _ h => h) (Or.inl ⟨by rfl, ?_⟩) (by assumption) ?_
 rotate_left
 ·(intro Y hSw; (try dsimp only at hSw); obtain ⟨hS0, hS1, hS2, hS3, hS4, hS5⟩ := hSw; go_simp; try with_reducible rfl)
 try simp only [Act.put, pu1, pu2, pu3, pu4, pu5, pu6]
 refine wpAnyH_take (i := 1) (v := ?_) rfl (by kernel_rfl) (by kernel_rfl) (by kernel_rfl) (fun _ _ _ h => h) (Or.inl ⟨by rfl, ?_⟩) (by assumption) ?_
 rotate_left
 ·(intro Y hSw; (try dsimp only at hSw); obtain ⟨hS0, hS1, hS2, hS3, hS4, hS5⟩ := hSw; go_simp; try with_reducible rfl)
 try simp only [Act.put, pu1, pu2, pu3, pu4, pu5, pu6]
 refine wpAnyH_take (i := 2) (v := ?_) rfl (by kernel_rfl) (by kernel_rfl) (by kernel_rfl) (fun _ _ _ h => h) (Or.inl ⟨by rfl, ?_⟩) (by assumption) ?_
 rotate_left
 ·(intro Y hSw; (try dsimp only at hSw); obtain ⟨hS0, hS1, hS2, hS3, hS4, hS5⟩ := hSw; go_simp; try with_reducible rfl)
 try simp only [Act.put, pu1, pu2, pu3, pu4, pu5, pu6]
 refine wpAnyH_take (i := 3) (v := ?_) rfl (by kernel_rfl) (by kernel_rfl) (by kernel_rfl) (fun _ _ _ h => h) (Or.inl ⟨by rfl, ?_⟩) (by assumption) ?_
 rotate_left
 ·(intro Y hSw; (try dsimp only at hSw); obtain ⟨hS0, hS1, hS2, hS3, hS4, hS5⟩ := hSw; go_simp; try with_reducible rfl)
 try simp only [Act.put, pu1, pu2, pu3, pu4, pu5, pu6]
 refine wpAnyH_take (i := 5) (v := ?_) rfl (by kernel_rfl) (by kernel_rfl) (by kernel_rfl) (fun _ _ _ h => h) (Or.inl ⟨by rfl, ?_⟩) (by assumption) ?_
 rotate_left
 ·(intro Y hSw; (try dsimp only at hSw); obtain ⟨hS0, hS1, hS2, hS3, hS4, hS5⟩ := hSw; go_simp; try with_reducible rfl)
 try simp only [Act.put, pu1, pu2, pu3, pu4, pu5, pu6]
 refine wpAnyH_take (i := 6) (v := ?_) rfl (by kernel_rfl) (by kernel_rfl) (by kernel_rfl) (fun _ _ _ h => h) (Or.inl ⟨by rfl, ?_⟩) (by assumption) ?_
 rotate_left
 ·(intro Y hSw; (try dsimp only at hSw); obtain ⟨hS0, hS1, hS2, hS3, hS4, hS5⟩ := hSw; go_simp; try with_reducible rfl)
 try simp only [Act.put, pu1, pu2, pu3, pu4, pu5, pu6]
 refine wpAnyH_take (i := 8) (v := ?_) rfl (by kernel_rfl) (by kernel_rfl) (by kernel_rfl) (fun _ _ _ h => h) (Or.inl ⟨by rfl, ?_⟩) (by assumption) ?_
 rotate_left
 ·(intro Y hSw; (try dsimp only at hSw); obtain ⟨hS0, hS1, hS2, hS3, hS4, hS5⟩ := hSw; go_simp; try with_reducible rfl)
 try simp only [Act.put, pu1, pu2, pu3, pu4, pu5, pu6]
 refine wpAnyH_take (i := 9) (v := ?_) rfl (by kernel_rfl) (by kernel_rfl) (by kernel_rfl) (fun _ _ _ h => h) (Or.inl ⟨by rfl, ?_⟩) (by assumption) ?_
 rotate_left
 ·(intro Y hSw; (try dsimp only at hSw); obtain ⟨hS0, hS1, hS2, hS3, hS4, hS5⟩ := hSw; go_simp; try with_reducible rfl)
 try simp only [Act.put, pu1, pu2, pu3, pu4, pu5, pu6]
 refine wpAnyH_take (i := 11) (v := ?_) rfl (by kernel_rfl) (by kernel_rfl) (by kernel_rfl) (fun _ _ _ h => h) (Or.inl ⟨by rfl, ?_⟩) (by assumption) ?_
 rotate_left
 ·(intro Y hSw; (try dsimp only at hSw); obtain ⟨hS0, hS1, hS2, hS3, hS4, hS5⟩ := hSw; go_simp; try with_reducible rfl)
 try simp only [Act.put, pu1, pu2, pu3, pu4, pu5, pu6]
 refine wpAnyH_take (i := 12) (v := ?_) rfl (by kernel_rfl) (by kernel_rfl) (by kernel_rfl) (fun _ _ _ h => h) (Or.inl ⟨by rfl, ?_⟩) (by assumption) ?_
 rotate_left
 ·(intro Y hSw; (try dsimp only at hSw); obtain ⟨hS0, hS1, hS2, hS3, hS4, hS5⟩ := hSw; go_simp; try with_reducible rfl)
 try simp only [Act.put, pu1, pu2, pu3, pu4, pu5, pu6]
 refine wpAnyH_take (i := 13) (v := ?_) rfl (by kernel_rfl) (by kernel_rfl) (by kernel_rfl) (fun _ _ _ h => h) (Or.inl ⟨by rfl, ?_⟩) (by assumption) ?_
 rotate_left
 ·(intro Y hSw; (try dsimp only at hSw); obtain ⟨hS0, hS1, hS2, hS3, hS4, hS5⟩ := hSw; go_simp; try with_reducible rfl)
 try simp only [Act.put, pu1, pu2, pu3, pu4, pu5, pu6]
 refine wpAnyH_take (i := 14) (v := ?_) rfl (by kernel_rfl) (by kernel_rfl) (by kernel_rfl) (fun _ _ _ h => h) (Or.inl ⟨by rfl, ?_⟩) (by assumption) ?_
 rotate_left
 ·(intro Y hSw; (try dsimp only at hSw); obtain ⟨hS0, hS1, hS2, hS3, hS4, hS5⟩ := hSw; go_simp; try with_reducible rfl)
 try simp only [Act.put, pu1, pu2, pu3, pu4, pu5, pu6]
 refine wpAnyH_ready (rs := [4]) (by kernel_rfl) (by simp) ?_
 refine AllReadyH.cons rfl (fun K hK => ?_) AllReadyH.nil
 go_simp
 refine (records_calls _).mono ?_; rintro e Z ⟨g, rfl, hG, j⟩
 replace h := h.step j; replace hS := hS.below j hS.lt; replace hR := hR.below j hR.lt
 (try replace hG := hG.below j hG.lt); (try replace hC := hC.below j hC.lt); (try replace hN := hN.below j hN.lt); (try replace hI := hI.below j hI.lt)
 replace kY := kY.trans (j.mono kY.size); clear j
 go_wp2_with fail
 refine hK.out _ _ (SrS.of hS hR) (fun hHeld => ?_)
 clear hK K
 try simp only [Act.put, pu1, pu2, pu3, pu4, pu5, pu6]
 obtain ⟨Y, rfl⟩ : ∃ Y : World, Y = Z := ⟨_, rfl⟩
 refine wpAnyH_ready (rs := [7]) (by kernel_rfl) (by simp) ?_
 refine AllReadyH.cons rfl (fun K hK => ?_) AllReadyH.nil
 go_simp
 refine (place_calls t c i _).mono ?_; rintro e Z ⟨rfl, j⟩
 replace h := h.step j; replace hS := hS.below j hS.lt; replace hR := hR.below j hR.lt
 (try replace hG := hG.below j hG.lt); (try replace hC := hC.below j hC.lt); (try replace hN := hN.below j hN.lt); (try replace hI := hI.below j hI.lt)
 replace kY := kY.trans (j.mono kY.size); clear j
 go_wp2_with fail
 refine hK.out _ _ (SrS.of hS hR) (fun hHeld => ?_)
 clear hK K
 try simp only [Act.put, pu1, pu2, pu3, pu4, pu5, pu6]
 obtain ⟨Y, rfl⟩ : ∃ Y : World, Y = Z := ⟨_, rfl⟩
 refine wpAnyH_ready (rs := [10]) (by kernel_rfl) (by simp) ?_
 refine AllReadyH.cons rfl (fun K hK => ?_) AllReadyH.nil
 go_simp
 refine (mclass_calls c _).mono ?_; rintro e Z ⟨pc, rfl, hC, j⟩
 replace h := h.step j; replace hS := hS.below j hS.lt; replace hR := hR.below j hR.lt
 (try replace hG := hG.below j hG.lt); (try replace hC := hC.below j hC.lt); (try replace hN := hN.below j hN.lt); (try replace hI := hI.below j hI.lt)
 replace kY := kY.trans (j.mono kY.size); clear j
 go_wp2_with fail
 refine hK.out _ _ (SrS.of hS hR) (fun hHeld => ?_)
 clear hK K
 try simp only [Act.put, pu1, pu2, pu3, pu4, pu5, pu6]
 obtain ⟨Y, rfl⟩ : ∃ Y : World, Y = Z := ⟨_, rfl⟩
 refine wpAnyH_ready (rs := [15]) (by kernel_rfl) (by simp) ?_
 refine AllReadyH.cons rfl (fun K hK => ?_) AllReadyH.nil
 go_simp
 refine (mindex_calls c i _).mono ?_; rintro e Z ⟨pn, pi, rfl, hN, hI, j⟩
 replace h := h.step j; replace hS := hS.below j hS.lt; replace hR := hR.below j hR.lt
 (try replace hG := hG.below j hG.lt); (try replace hC := hC.below j hC.lt); (try replace hN := hN.below j hN.lt); (try replace hI := hI.below j hI.lt)
 replace kY := kY.trans (j.mono kY.size); clear j
 go_wp2_with fail
 refine hK.out _ _ (SrS.of hS hR) (fun hHeld => ?_)
 clear hK K
 try simp only [Act.put, pu1, pu2, pu3, pu4, pu5, pu6]
 obtain ⟨Y, rfl⟩ : ∃ Y : World, Y = Z := ⟨_, rfl⟩
 refine wpAnyH_ready (rs := [16]) (by kernel_rfl) (by simp) ?_
 refine AllReadyH.cons rfl (fun K hK => ?_) AllReadyH.nil
 go_simp
 obtain ⟨gl, hgl⟩ : ∃ g, Y.heap.size = g := ⟨_, rfl⟩
 obtain ⟨Z, hZ⟩ : ∃ Z, Y.alloc (.cells (askListP (spotAsks pc pn pi c i)).toArray 70) = Z := ⟨_, rfl⟩
 have j : Below Y.heap.size Y Z := by rw [← hZ]; exact (Below.refl _ Y).alloc (Nat.le_refl _) _
 have hL : CellsAt Z gl (askListP (spotAsks pc pn pi c i)) := by rw [← hZ, ← hgl]; exact CellsAt.of (Blk.new Y _ _)
 rw [show Y.alloc (.cells #[.func (.func 63) #[] #[.pointer (some ⟨pc, 0, none⟩)], .int .i64 2, .func (.func 65) #[] #[.pointer (some ⟨pn, 0, none⟩), .pointer (some ⟨pi, 0, none⟩)], .int .i64 4] 70) = Z from hZ, hgl]
 clear hZ hgl
 replace h := h.step j; replace hS := hS.below j hS.lt; replace hR := hR.below j hR.lt
 (try replace hG := hG.below j hG.lt); (try replace hC := hC.below j hC.lt); (try replace hN := hN.below j hN.lt); (try replace hI := hI.below j hI.lt)
 replace kY := kY.trans (j.mono kY.size); clear j
 refine hK.out _ _ (SrS.of hS hR) (fun hHeld => ?_)
 clear hK K
 try simp only [Act.put, pu1, pu2, pu3, pu4, pu5, pu6]
 obtain ⟨Y, rfl⟩ : ∃ Y : World, Y = Z := ⟨_, rfl⟩
 have hans := spot_answers hC hN hI
 refine wpAnyH_ready (rs := [17]) (by kernel_rfl) (by simp) ?_
 refine AllReadyH.cons rfl (fun K hK => ?_) AllReadyH.nil
 go_simp
 refine (mputR_no h t st sz nc (placeI c i) g gl (spotAsks pc pn pi c i) (by simp [spotAsks]) (by simp [spotAsks]) hL hans (by rw [putX_eq]; exact hE)).mono ?_; rintro e Z ⟨rfl, j⟩
 rw [putX_eq]
 clear hL hans
 replace h := h.step j; replace hS := hS.below j hS.lt; replace hR := hR.below j hR.lt
 (try replace hG := hG.below j hG.lt); (try replace hC := hC.below j hC.lt); (try replace hN := hN.below j hN.lt); (try replace hI := hI.below j hI.lt)
 replace kY := kY.trans (j.mono kY.size); clear j
 go_wp2_with fail
 refine hK.out _ _ (SrS.of hS hR) (fun hHeld => ?_)
 clear hK K
 try simp only [Act.put, pu1, pu2, pu3, pu4, pu5, pu6]
 refine wpAnyH_take (i := 18) (v := ?_) rfl (by kernel_rfl) (by kernel_rfl) (by kernel_rfl) (fun _ _ _ h => h) (Or.inl ⟨by rfl, ?_⟩) (by assumption) ?_
 rotate_left
 ·(intro Y hSw; (try dsimp only at hSw); obtain ⟨hS0, hS1, hS2, hS3, hS4, hS5⟩ := hSw; go_simp; try with_reducible rfl)
 try simp only [Act.put, pu1, pu2, pu3, pu4, pu5, pu6]
 refine wpAnyH_done (by kernel_rfl) ?_ _
 rw [onlyN_normal]
 go_wp2_with fail
 go_ret
 exact ⟨rfl, kY⟩
end Go.Proofs.YtlpchcdalfkfcaaGreat

