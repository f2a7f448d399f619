/-
 Package meta: putting a great record that is refused. Conditions: a memory's books in order.
-/
import Derived.Test.YtlpchcdalfkfcaaGreatBMeM
import Derived.Test.YtlpchcdalfkfcaaGreatBMeAa
namespace Go.Proofs.YtlpchcdalfkfcaaGreat
open Go.RowKit Go.ChangeShapes
attribute [local go_sem] Oper.semAt_some
set_option maxHeartbeats 8000000
set_option maxRecDepth 8000

variable {w0 w : World} {k : Mb} {s : Ms}
theorem mputG_no (h : LivM w0 w k s) (t st pg sz fi at_ : Int) (g lb : Nat) (la : List AskP) (hla : la ≠ []) (hla2 : la.length ≤ 100) (hLa : CellsAt w lb (askListP la)) (hAns : AnswersP w la) (hE : putE s t (!rgtG st pg sz fi) la ≠ 0) :
  Calls Tryz.prog 59 #[.agg #[.pointer (some ⟨k.b, 0, none⟩), .int .i64 t], .agg #[.slice (some ⟨g, 0, none⟩) 6 6, .func (.func 122) #[] #[]], .agg #[.int .i64 st, .int .i64 pg, .int .i64 sz, .int .i64 fi], .int .i64 at_, .slice (some ⟨lb, 0, none⟩) la.length la.length] w
   fun e w' => e = .returned (.int .i64 (putE s t (!rgtG st pg sz fi) la)) ∧ Below w.heap.size w w' := by
 obtain ⟨Y, hY⟩ : ∃ Y, (((w.alloc (.cells #[.pointer (some ⟨k.b, 0, none⟩), .int .i64 t] 72)).alloc (.cells #[.slice (some ⟨g, 0, none⟩) 6 6, .func (.func 122) #[] #[]] 112)).alloc (.cells #[.int .i64 st, .int .i64 pg, .int .i64 sz, .int .i64 fi] 54)).alloc
  (.cells #[.func (.func 126) #[] #[.pointer (some ⟨w.heap.size + 1, 0, none⟩), .pointer (some ⟨w.heap.size + 1 + 1, 0, none⟩)], .int .i64 2] 70) = Y := ⟨_, rfl⟩
 have hB : Blk Y w.heap.size #[.pointer (some ⟨k.b, 0, none⟩), .int .i64 t] 72 := by rw [← hY]; exact (((Blk.new w _ _).alloc _).alloc _).alloc _
 have hP : Blk Y (w.heap.size + 1) #[.slice (some ⟨g, 0, none⟩) 6 6, .func (.func 122) #[] #[]] 112 := by rw [← hY]; exact ((Blk.newAt _ _ _ (by simp)).alloc _).alloc _
 have hR : Blk Y (w.heap.size + 1 + 1) #[.int .i64 st, .int .i64 pg, .int .i64 sz, .int .i64 fi] 54 := by rw [← hY]; exact (Blk.newAt _ _ _ (by simp)).alloc _
 have hA : Blk Y (w.heap.size + 1 + 1 + 1) #[.func (.func 126) #[] #[.pointer (some ⟨w.heap.size + 1, 0, none⟩), .pointer (some ⟨w.heap.size + 1 + 1, 0, none⟩)], .int .i64 2] 70 := by rw [← hY]; exact Blk.newAt _ _ _ (by simp)
 have kY : Below w.heap.size w Y := by rw [← hY]; exact ((((Below.refl _ w).alloc (Nat.le_refl _) _).alloc (by simp) _).alloc (by simp; omega) _).alloc (by simp; omega) _
 replace h := h.step kY
 replace hLa := hLa.below kY (Nat.le_refl _)
 replace hAns := hAns.step kY
 have hl0 : 0 < la.length := List.length_pos_iff.2 hla
 go_enter Tryz.func59, Tryz.ntmps59
 go_wp2_with fail
 clear hY
 obtain ⟨b6, hb6⟩ : ∃ b, w.heap.size + 1 = b := ⟨_, rfl⟩
 rw [hb6] at hP hR hA ⊢
 obtain ⟨b7, hb7⟩ : ∃ b, b6 + 1 = b := ⟨_, rfl⟩
 rw [hb7] at hR hA ⊢
 obtain ⟨b11, hb11⟩ : ∃ b, b7 + 1 = b := ⟨_, rfl⟩
 rw [hb11] at hA ⊢
 obtain ⟨b5, hb5⟩ : ∃ b, w.heap.size = b := ⟨_, rfl⟩
 rw [hb5] at hB ⊢
 clear hb5 hb6 hb7 hb11
 refine wp_onlyN ?_
 refine wp_region_held_drew (S := PtS b5 b11 (.pointer (some ⟨k.b, 0, none⟩)) t (.func (.func 126) #[] #[.pointer (some ⟨b6, 0, none⟩), .pointer (some ⟨b7, 0, none⟩)])) (by kernel_rfl) (PtS.of hB hA) (fun hHeld => ?_)
 obtain ⟨Z, hZ⟩ : ∃ Z, Y.drew = Z := ⟨_, rfl⟩
 have j : Below Y.heap.size Y Z := by rw [← hZ]; exact (Below.refl _ Y).drew
 rw [hZ] at hHeld ⊢
 clear hZ
 replace h := h.step j; replace hB := hB.below j hB.lt; replace hA := hA.below j hA.lt; replace hP := hP.below j hP.lt; replace hR := hR.below j hR.lt; replace hLa := hLa.below j (Nat.le_refl _); replace hAns := hAns.step j
 (try replace hI := hI.below j hI.lt); (try replace hW := hW.below j hW.lt); (try replace hO := hO.below j hO.lt); (try replace hL3 := hL3.below j (Nat.le_refl _)); (try replace hL1 := hL1.below j (Nat.le_refl _)); (try replace hAp := hAp.below j (Nat.le_refl _))
 replace kY := kY.trans (j.mono kY.size); clear j
 obtain ⟨Y, rfl⟩ : ∃ Y : World, Y = Z := ⟨_, rfl⟩
 refine wpAnyH_take (i := 0) (v := ?_) rfl (by kernel_rfl) (by kernel_rfl) (by kernel_rfl) (fun _ _ _ h => h) (Or.inl ⟨by rfl, ?_⟩) (by assumption) ?_
 rotate_left
 ·(intro Y hSw; (try dsimp only at hSw); obtain ⟨hS0, hS1, hS2, hS3⟩ := hSw; go_simp; try with_reducible rfl)
 try simp only [Act.put, pu1, pu2, pu3, pu4, pu5, pu6]
 refine wpAnyH_take (i := 2) (v := ?_) rfl (by kernel_rfl) (by kernel_rfl) (by kernel_rfl) (fun _ _ _ h => h) (Or.inl ⟨by rfl, ?_⟩) (by assumption) ?_
 rotate_left
 ·(intro Y hSw; (try dsimp only at hSw); obtain ⟨hS0, hS1, hS2, hS3⟩ := hSw; go_simp; try with_reducible rfl)
 try simp only [Act.put, pu1, pu2, pu3, pu4, pu5, pu6]
 refine wpAnyH_take (i := 4) (v := ?_) rfl (by kernel_rfl) (by kernel_rfl) (by kernel_rfl) (fun _ _ _ h => h) (Or.inl ⟨by rfl, ?_⟩) (by assumption) ?_
 rotate_left
 ·(intro Y hSw; (try dsimp only at hSw); obtain ⟨hS0, hS1, hS2, hS3⟩ := hSw; go_simp; try with_reducible rfl)
 try simp only [Act.put, pu1, pu2, pu3, pu4, pu5, pu6]
 refine wpAnyH_take (i := 6) (v := ?_) rfl (by kernel_rfl) (by kernel_rfl) (by kernel_rfl) (fun _ _ _ h => h) (Or.inl ⟨by rfl, ?_⟩) (by assumption) ?_
 rotate_left
 ·(intro Y hSw; (try dsimp only at hSw); obtain ⟨hS0, hS1, hS2, hS3⟩ := hSw; go_simp; try with_reducible rfl)
 try simp only [Act.put, pu1, pu2, pu3, pu4, pu5, pu6]
 refine wpAnyH_take (i := 7) (v := ?_) rfl (by kernel_rfl) (by kernel_rfl) (by kernel_rfl) (fun _ _ _ h => h) (Or.inl ⟨by rfl, ?_⟩) (by assumption) ?_
 rotate_left
 ·(intro Y hSw; (try dsimp only at hSw); obtain ⟨hS0, hS1, hS2, hS3⟩ := hSw; go_simp; try with_reducible rfl)
 try simp only [Act.put, pu1, pu2, pu3, pu4, pu5, pu6]
 refine wpAnyH_ready (rs := [1]) (by kernel_rfl) (by simp) ?_
 refine AllReadyH.cons rfl (fun K hK => ?_) AllReadyH.nil
 go_simp
 refine (mis_calls _ t _).mono ?_; rintro e Z ⟨pi, rfl, hI, j⟩
 replace h := h.step j; replace hB := hB.below j hB.lt; replace hA := hA.below j hA.lt; replace hP := hP.below j hP.lt; replace hR := hR.below j hR.lt; replace hLa := hLa.below j (Nat.le_refl _); replace hAns := hAns.step j
 (try replace hI := hI.below j hI.lt); (try replace hW := hW.below j hW.lt); (try replace hO := hO.below j hO.lt); (try replace hL3 := hL3.below j (Nat.le_refl _)); (try replace hL1 := hL1.below j (Nat.le_refl _)); (try replace hAp := hAp.below j (Nat.le_refl _))
 replace kY := kY.trans (j.mono kY.size); clear j
 go_wp2_with fail
 refine hK.out _ _ (PtS.of hB hA) (fun hHeld => ?_)
 clear hK K
 try simp only [Act.put, pu1, pu2, pu3, pu4, pu5, pu6]
 obtain ⟨Y, rfl⟩ : ∃ Y : World, Y = Z := ⟨_, rfl⟩
 refine wpAnyH_ready (rs := [3]) (by kernel_rfl) (by simp) ?_
 refine AllReadyH.cons rfl (fun K hK => ?_) AllReadyH.nil
 go_simp
 refine (mwho_calls _ t _).mono ?_; rintro e Z ⟨pw, rfl, hW, j⟩
 replace h := h.step j; replace hB := hB.below j hB.lt; replace hA := hA.below j hA.lt; replace hP := hP.below j hP.lt; replace hR := hR.below j hR.lt; replace hLa := hLa.below j (Nat.le_refl _); replace hAns := hAns.step j
 (try replace hI := hI.below j hI.lt); (try replace hW := hW.below j hW.lt); (try replace hO := hO.below j hO.lt); (try replace hL3 := hL3.below j (Nat.le_refl _)); (try replace hL1 := hL1.below j (Nat.le_refl _)); (try replace hAp := hAp.below j (Nat.le_refl _))
 replace kY := kY.trans (j.mono kY.size); clear j
 go_wp2_with fail
 refine hK.out _ _ (PtS.of hB hA) (fun hHeld => ?_)
 clear hK K
 try simp only [Act.put, pu1, pu2, pu3, pu4, pu5, pu6]
 obtain ⟨Y, rfl⟩ : ∃ Y : World, Y = Z := ⟨_, rfl⟩
 refine wpAnyH_ready (rs := [5, 8]) (by kernel_rfl) (by simp) ?_
 refine AllReadyH.cons rfl (fun K hK => ?_) (AllReadyH.cons rfl (fun K hK => ?_) AllReadyH.nil)
 ·go_simp
  obtain ⟨g3, hg3⟩ : ∃ g, Y.heap.size = g := ⟨_, rfl⟩
  obtain ⟨Z, hZ⟩ : ∃ Z, Y.alloc (.cells (askListP (preAsks pi pw 126 b6 b7 t (!rgtG st pg sz fi))).toArray 70) = Z := ⟨_, rfl⟩
  have j : Below Y.heap.size Y Z := by rw [← hZ]; exact (Below.refl _ Y).alloc (Nat.le_refl _) _
  have hL3' : CellsAt Z g3 (askListP (preAsks pi pw 126 b6 b7 t (!rgtG st pg sz fi))) := by rw [← hZ, ← hg3]; exact CellsAt.of (Blk.new Y _ _)
  rw [show Y.alloc (.cells #[.func (.func 85) #[] #[.pointer (some ⟨pi, 0, none⟩)], .int .i64 1, .func (.func 62) #[] #[.pointer (some ⟨pw, 0, none⟩)], .int .i64 2, .func (.func 126) #[] #[.pointer (some ⟨b6, 0, none⟩), .pointer (some ⟨b7, 0, none⟩)], .int .i64 2] 70) = Z from hZ, hg3]
  clear hZ hg3
  replace h := h.step j; replace hB := hB.below j hB.lt; replace hA := hA.below j hA.lt; replace hP := hP.below j hP.lt; replace hR := hR.below j hR.lt; replace hLa := hLa.below j (Nat.le_refl _); replace hAns := hAns.step j
  (try replace hI := hI.below j hI.lt); (try replace hW := hW.below j hW.lt); (try replace hO := hO.below j hO.lt); (try replace hL3 := hL3.below j (Nat.le_refl _)); (try replace hL1 := hL1.below j (Nat.le_refl _)); (try replace hAp := hAp.below j (Nat.le_refl _))
  replace kY := kY.trans (j.mono kY.size); clear j
  have hL3 := hL3'
  clear hL3'
  refine hK.out _ _ (PtS.of hB hA) (fun hHeld => ?_)
  clear hK K
  try simp only [Act.put, pu1, pu2, pu3, pu4, pu5, pu6]
  obtain ⟨Y, rfl⟩ : ∃ Y : World, Y = Z := ⟨_, rfl⟩
  refine wpAnyH_ready (rs := [8]) (by kernel_rfl) (by simp) ?_
  refine AllReadyH.cons rfl (fun K hK => ?_) AllReadyH.nil
  go_simp
  refine (mopened_calls _ t _).mono ?_; rintro e Z ⟨po, rfl, hO, j⟩
  replace h := h.step j; replace hB := hB.below j hB.lt; replace hA := hA.below j hA.lt; replace hP := hP.below j hP.lt; replace hR := hR.below j hR.lt; replace hLa := hLa.below j (Nat.le_refl _); replace hAns := hAns.step j
  (try replace hI := hI.below j hI.lt); (try replace hW := hW.below j hW.lt); (try replace hO := hO.below j hO.lt); (try replace hL3 := hL3.below j (Nat.le_refl _)); (try replace hL1 := hL1.below j (Nat.le_refl _)); (try replace hAp := hAp.below j (Nat.le_refl _))
  replace kY := kY.trans (j.mono kY.size); clear j
  go_wp2_with fail
  refine hK.out _ _ (PtS.of hB hA) (fun hHeld => ?_)
  clear hK K
  try simp only [Act.put, pu1, pu2, pu3, pu4, pu5, pu6]
  obtain ⟨Y, rfl⟩ : ∃ Y : World, Y = Z := ⟨_, rfl⟩
  refine wpAnyH_ready (rs := [9]) (by kernel_rfl) (by simp) ?_
  refine AllReadyH.cons rfl (fun K hK => ?_) AllReadyH.nil
  go_simp
  obtain ⟨g1, hg1⟩ : ∃ g, Y.heap.size = g := ⟨_, rfl⟩
  obtain ⟨Z, hZ⟩ : ∃ Z, Y.alloc (.cells (askListP (opAsk po s t)).toArray 70) = Z := ⟨_, rfl⟩
  have j : Below Y.heap.size Y Z := by rw [← hZ]; exact (Below.refl _ Y).alloc (Nat.le_refl _) _
  have hL1' : CellsAt Z g1 (askListP (opAsk po s t)) := by rw [← hZ, ← hg1]; exact CellsAt.of (Blk.new Y _ _)
  rw [show Y.alloc (.cells #[.func (.func 175) #[] #[.pointer (some ⟨po, 0, none⟩)], .int .i64 5] 70) = Z from hZ, hg1]
  clear hZ hg1
  replace h := h.step j; replace hB := hB.below j hB.lt; replace hA := hA.below j hA.lt; replace hP := hP.below j hP.lt; replace hR := hR.below j hR.lt; replace hLa := hLa.below j (Nat.le_refl _); replace hAns := hAns.step j
  (try replace hI := hI.below j hI.lt); (try replace hW := hW.below j hW.lt); (try replace hO := hO.below j hO.lt); (try replace hL3 := hL3.below j (Nat.le_refl _)); (try replace hL1 := hL1.below j (Nat.le_refl _)); (try replace hAp := hAp.below j (Nat.le_refl _))
  replace kY := kY.trans (j.mono kY.size); clear j
  have hL1 := hL1'
  clear hL1'
  refine hK.out _ _ (PtS.of hB hA) (fun hHeld => ?_)
  clear hK K
  try simp only [Act.put, pu1, pu2, pu3, pu4, pu5, pu6]
  obtain ⟨Y, rfl⟩ : ∃ Y : World, Y = Z := ⟨_, rfl⟩
  refine wpAnyH_ready (rs := [10]) (by kernel_rfl) (by simp) ?_
  refine AllReadyH.cons rfl (fun K hK => ?_) AllReadyH.nil
  rw [if_pos (by rfl)]
  refine wp_append_full _ _ 116 rfl Tryz.underlying116 infoAsk lb la.length (askListP la) rfl (askListP_len la) hLa g1 1 1 (askListP (opAsk po s t)) rfl rfl hL1 (by omega) (by unfold maxLen; omega) (by omega) ?_
  intro ga ca Z hga j hAp'
  clear hga
  replace h := h.step j; replace hB := hB.below j hB.lt; replace hA := hA.below j hA.lt; replace hP := hP.below j hP.lt; replace hR := hR.below j hR.lt; replace hLa := hLa.below j (Nat.le_refl _); replace hAns := hAns.step j
  (try replace hI := hI.below j hI.lt); (try replace hW := hW.below j hW.lt); (try replace hO := hO.below j hO.lt); (try replace hL3 := hL3.below j (Nat.le_refl _)); (try replace hL1 := hL1.below j (Nat.le_refl _)); (try replace hAp := hAp.below j (Nat.le_refl _))
  replace kY := kY.trans (j.mono kY.size); clear j
  have hAp := hAp'
  clear hAp'
  refine hK.out _ _ (PtS.of hB hA) (fun hHeld => ?_)
  clear hK K
  try simp only [Act.put, pu1, pu2, pu3, pu4, pu5, pu6]
  obtain ⟨Y, rfl⟩ : ∃ Y : World, Y = Z := ⟨_, rfl⟩
  refine wpAnyH_ready (rs := [11]) (by kernel_rfl) (by simp) ?_
  refine AllReadyH.cons rfl (fun K hK => ?_) AllReadyH.nil
  rw [if_pos (by rfl)]
  refine wp_append_full _ _ 116 rfl Tryz.underlying116 infoAsk g3 3 (askListP (preAsks pi pw 126 b6 b7 t (!rgtG st pg sz fi))) rfl rfl hL3 ga (la.length + 1) ca (askListP la ++ askListP (opAsk po s t)) rfl (by rw [List.length_append, askListP_len, askListP_len]; simp [opAsk]; omega) hAp (by omega) (by unfold maxLen; omega) (by omega) ?_
  intro gz cz Z hgz j hAz'
  clear hgz
  replace h := h.step j; replace hB := hB.below j hB.lt; replace hA := hA.below j hA.lt; replace hP := hP.below j hP.lt; replace hR := hR.below j hR.lt; replace hLa := hLa.below j (Nat.le_refl _); replace hAns := hAns.step j
  (try replace hI := hI.below j hI.lt); (try replace hW := hW.below j hW.lt); (try replace hO := hO.below j hO.lt); (try replace hL3 := hL3.below j (Nat.le_refl _)); (try replace hL1 := hL1.below j (Nat.le_refl _)); (try replace hAp := hAp.below j (Nat.le_refl _))
  replace kY := kY.trans (j.mono kY.size); clear j
  have hAz := hAz'
  clear hAz'
  rw [← askListP_append, ← askListP_append] at hAz
  have hrow := Lib.hid (askRow_cells hAz)
  have hans := Lib.hid ((preAsk_ans (wr := !rgtG st pg sz fi) h hI hW (enters_of Tryz.func126 (by kernel_rfl) rfl) (fun X kx => mputG1_calls (hP.below kx hP.lt) (hR.below kx hR.lt))).append (hAns.append (opAsk_ans h hO)))
  clear hAz hAp hL1 hL3
  refine hK.out _ _ (PtS.of hB hA) (fun hHeld => ?_)
  clear hK K
  try simp only [Act.put, pu1, pu2, pu3, pu4, pu5, pu6]
  obtain ⟨Y, rfl⟩ : ∃ Y : World, Y = Z := ⟨_, rfl⟩
  refine wpAnyH_ready (rs := [12]) (by kernel_rfl) (by simp) ?_
  refine AllReadyH.cons rfl (fun K hK => ?_) AllReadyH.nil
  go_simp
  refine (asked_okM Y gz (3 + (la.length + 1)) cz _ (by simp [preAsks, opAsk]; omega) (by simp [preAsks, opAsk]; omega) hrow hans).mono ?_; rintro e Z ⟨rfl, j⟩
  rw [putE_eq]
  clear hrow hans
  replace h := h.step j; replace hB := hB.below j hB.lt; replace hA := hA.below j hA.lt; replace hP := hP.below j hP.lt; replace hR := hR.below j hR.lt; replace hLa := hLa.below j (Nat.le_refl _); replace hAns := hAns.step j
  (try replace hI := hI.below j hI.lt); (try replace hW := hW.below j hW.lt); (try replace hO := hO.below j hO.lt); (try replace hL3 := hL3.below j (Nat.le_refl _)); (try replace hL1 := hL1.below j (Nat.le_refl _)); (try replace hAp := hAp.below j (Nat.le_refl _))
  replace kY := kY.trans (j.mono kY.size); clear j
  go_wp2_with fail
  refine hK.out _ _ (PtS.of hB hA) (fun hHeld => ?_)
  clear hK K
  try simp only [Act.put, pu1, pu2, pu3, pu4, pu5, pu6]
  refine wpAnyH_take (i := 13) (v := ?_) rfl (by kernel_rfl) (by kernel_rfl) (by kernel_rfl) (fun _ _ _ h => h) (Or.inl ⟨by rfl, ?_⟩) (by assumption) ?_
  rotate_left
  ·(intro Y hSw; (try dsimp only at hSw); obtain ⟨hS0, hS1, hS2, hS3⟩ := hSw; go_simp; try with_reducible rfl)
  try simp only [Act.put, pu1, pu2, pu3, pu4, pu5, pu6]
  refine wpAnyH_done (by kernel_rfl) ?_ _
  rw [onlyN_normal]
  obtain ⟨q, hq⟩ : ∃ q, putE s t (!rgtG st pg sz fi) la = q := ⟨_, rfl⟩
  rw [hq] at hE ⊢
  have HQ := Lib.hid hq
  have hq1 : (q == 0) = false := by simpa using hE
  clear hq
  go_wp2_with fail
  go_ret
  exact ⟨by rw [HQ.out]; rfl, kY⟩
 ·go_simp
  refine (mopened_calls _ t _).mono ?_; rintro e Z ⟨po, rfl, hO, j⟩
  replace h := h.step j; replace hB := hB.below j hB.lt; replace hA := hA.below j hA.lt; replace hP := hP.below j hP.lt; replace hR := hR.below j hR.lt; replace hLa := hLa.below j (Nat.le_refl _); replace hAns := hAns.step j
  (try replace hI := hI.below j hI.lt); (try replace hW := hW.below j hW.lt); (try replace hO := hO.below j hO.lt); (try replace hL3 := hL3.below j (Nat.le_refl _)); (try replace hL1 := hL1.below j (Nat.le_refl _)); (try replace hAp := hAp.below j (Nat.le_refl _))
  replace kY := kY.trans (j.mono kY.size); clear j
  go_wp2_with fail
  refine hK.out _ _ (PtS.of hB hA) (fun hHeld => ?_)
  clear hK K
  try simp only [Act.put, pu1, pu2, pu3, pu4, pu5, pu6]
  obtain ⟨Y, rfl⟩ : ∃ Y : World, Y = Z := ⟨_, rfl⟩
  refine wpAnyH_ready (rs := [5, 9]) (by kernel_rfl) (by simp) ?_
  refine AllReadyH.cons rfl (fun K hK => ?_) (AllReadyH.cons rfl (fun K hK => ?_) AllReadyH.nil)
  ·go_simp
   obtain ⟨g3, hg3⟩ : ∃ g, Y.heap.size = g := ⟨_, rfl⟩
   obtain ⟨Z, hZ⟩ : ∃ Z, Y.alloc (.cells (askListP (preAsks pi pw 126 b6 b7 t (!rgtG st pg sz fi))).toArray 70) = Z := ⟨_, rfl⟩
   have j : Below Y.heap.size Y Z := by rw [← hZ]; exact (Below.refl _ Y).alloc (Nat.le_refl _) _
   have hL3' : CellsAt Z g3 (askListP (preAsks pi pw 126 b6 b7 t (!rgtG st pg sz fi))) := by rw [← hZ, ← hg3]; exact CellsAt.of (Blk.new Y _ _)
   rw [show Y.alloc (.cells #[.func (.func 85) #[] #[.pointer (some ⟨pi, 0, none⟩)], .int .i64 1, .func (.func 62) #[] #[.pointer (some ⟨pw, 0, none⟩)], .int .i64 2, .func (.func 126) #[] #[.pointer (some ⟨b6, 0, none⟩), .pointer (some ⟨b7, 0, none⟩)], .int .i64 2] 70) = Z from hZ, hg3]
   clear hZ hg3
   replace h := h.step j; replace hB := hB.below j hB.lt; replace hA := hA.below j hA.lt; replace hP := hP.below j hP.lt; replace hR := hR.below j hR.lt; replace hLa := hLa.below j (Nat.le_refl _); replace hAns := hAns.step j
   (try replace hI := hI.below j hI.lt); (try replace hW := hW.below j hW.lt); (try replace hO := hO.below j hO.lt); (try replace hL3 := hL3.below j (Nat.le_refl _)); (try replace hL1 := hL1.below j (Nat.le_refl _)); (try replace hAp := hAp.below j (Nat.le_refl _))
   replace kY := kY.trans (j.mono kY.size); clear j
   have hL3 := hL3'
   clear hL3'
   refine hK.out _ _ (PtS.of hB hA) (fun hHeld => ?_)
   clear hK K
   try simp only [Act.put, pu1, pu2, pu3, pu4, pu5, pu6]
   obtain ⟨Y, rfl⟩ : ∃ Y : World, Y = Z := ⟨_, rfl⟩
   refine wpAnyH_ready (rs := [9]) (by kernel_rfl) (by simp) ?_
   refine AllReadyH.cons rfl (fun K hK => ?_) AllReadyH.nil
   go_simp
   obtain ⟨g1, hg1⟩ : ∃ g, Y.heap.size = g := ⟨_, rfl⟩
   obtain ⟨Z, hZ⟩ : ∃ Z, Y.alloc (.cells (askListP (opAsk po s t)).toArray 70) = Z := ⟨_, rfl⟩
   have j : Below Y.heap.size Y Z := by rw [← hZ]; exact (Below.refl _ Y).alloc (Nat.le_refl _) _
   have hL1' : CellsAt Z g1 (askListP (opAsk po s t)) := by rw [← hZ, ← hg1]; exact CellsAt.of (Blk.new Y _ _)
   rw [show Y.alloc (.cells #[.func (.func 175) #[] #[.pointer (some ⟨po, 0, none⟩)], .int .i64 5] 70) = Z from hZ, hg1]
   clear hZ hg1
   replace h := h.step j; replace hB := hB.below j hB.lt; replace hA := hA.below j hA.lt; replace hP := hP.below j hP.lt; replace hR := hR.below j hR.lt; replace hLa := hLa.below j (Nat.le_refl _); replace hAns := hAns.step j
   (try replace hI := hI.below j hI.lt); (try replace hW := hW.below j hW.lt); (try replace hO := hO.below j hO.lt); (try replace hL3 := hL3.below j (Nat.le_refl _)); (try replace hL1 := hL1.below j (Nat.le_refl _)); (try replace hAp := hAp.below j (Nat.le_refl _))
   replace kY := kY.trans (j.mono kY.size); clear j
   have hL1 := hL1'
   clear hL1'
   refine hK.out _ _ (PtS.of hB hA) (fun hHeld => ?_)
   clear hK K
   try simp only [Act.put, pu1, pu2, pu3, pu4, pu5, pu6]
   obtain ⟨Y, rfl⟩ : ∃ Y : World, Y = Z := ⟨_, rfl⟩
   refine wpAnyH_ready (rs := [10]) (by kernel_rfl) (by simp) ?_
   refine AllReadyH.cons rfl (fun K hK => ?_) AllReadyH.nil
   rw [if_pos (by rfl)]
   refine wp_append_full _ _ 116 rfl Tryz.underlying116 infoAsk lb la.length (askListP la) rfl (askListP_len la) hLa g1 1 1 (askListP (opAsk po s t)) rfl rfl hL1 (by omega) (by unfold maxLen; omega) (by omega) ?_
   intro ga ca Z hga j hAp'
   clear hga
   replace h := h.step j; replace hB := hB.below j hB.lt; replace hA := hA.below j hA.lt; replace hP := hP.below j hP.lt; replace hR := hR.below j hR.lt; replace hLa := hLa.below j (Nat.le_refl _); replace hAns := hAns.step j
   (try replace hI := hI.below j hI.lt); (try replace hW := hW.below j hW.lt); (try replace hO := hO.below j hO.lt); (try replace hL3 := hL3.below j (Nat.le_refl _)); (try replace hL1 := hL1.below j (Nat.le_refl _)); (try replace hAp := hAp.below j (Nat.le_refl _))
   replace kY := kY.trans (j.mono kY.size); clear j
   have hAp := hAp'
   clear hAp'
   refine hK.out _ _ (PtS.of hB hA) (fun hHeld => ?_)
   clear hK K
   try simp only [Act.put, pu1, pu2, pu3, pu4, pu5, pu6]
   obtain ⟨Y, rfl⟩ : ∃ Y : World, Y = Z := ⟨_, rfl⟩
   refine wpAnyH_ready (rs := [11]) (by kernel_rfl) (by simp) ?_
   refine AllReadyH.cons rfl (fun K hK => ?_) AllReadyH.nil
   rw [if_pos (by rfl)]
   refine wp_append_full _ _ 116 rfl Tryz.underlying116 infoAsk g3 3 (askListP (preAsks pi pw 126 b6 b7 t (!rgtG st pg sz fi))) rfl rfl hL3 ga (la.length + 1) ca (askListP la ++ askListP (opAsk po s t)) rfl (by rw [List.length_append, askListP_len, askListP_len]; simp [opAsk]; omega) hAp (by omega) (by unfold maxLen; omega) (by omega) ?_
   intro gz cz Z hgz j hAz'
   clear hgz
   replace h := h.step j; replace hB := hB.below j hB.lt; replace hA := hA.below j hA.lt; replace hP := hP.below j hP.lt; replace hR := hR.below j hR.lt; replace hLa := hLa.below j (Nat.le_refl _); replace hAns := hAns.step j
   (try replace hI := hI.below j hI.lt); (try replace hW := hW.below j hW.lt); (try replace hO := hO.below j hO.lt); (try replace hL3 := hL3.below j (Nat.le_refl _)); (try replace hL1 := hL1.below j (Nat.le_refl _)); (try replace hAp := hAp.below j (Nat.le_refl _))
   replace kY := kY.trans (j.mono kY.size); clear j
   have hAz := hAz'
   clear hAz'
   rw [← askListP_append, ← askListP_append] at hAz
   have hrow := Lib.hid (askRow_cells hAz)
   have hans := Lib.hid ((preAsk_ans (wr := !rgtG st pg sz fi) h hI hW (enters_of Tryz.func126 (by kernel_rfl) rfl) (fun X kx => mputG1_calls (hP.below kx hP.lt) (hR.below kx hR.lt))).append (hAns.append (opAsk_ans h hO)))
   clear hAz hAp hL1 hL3
   refine hK.out _ _ (PtS.of hB hA) (fun hHeld => ?_)
   clear hK K
   try simp only [Act.put, pu1, pu2, pu3, pu4, pu5, pu6]
   obtain ⟨Y, rfl⟩ : ∃ Y : World, Y = Z := ⟨_, rfl⟩
   refine wpAnyH_ready (rs := [12]) (by kernel_rfl) (by simp) ?_
   refine AllReadyH.cons rfl (fun K hK => ?_) AllReadyH.nil
   go_simp
   refine (asked_okM Y gz (3 + (la.length + 1)) cz _ (by simp [preAsks, opAsk]; omega) (by simp [preAsks, opAsk]; omega) hrow hans).mono ?_; rintro e Z ⟨rfl, j⟩
   rw [putE_eq]
   clear hrow hans
   replace h := h.step j; replace hB := hB.below j hB.lt; replace hA := hA.below j hA.lt; replace hP := hP.below j hP.lt; replace hR := hR.below j hR.lt; replace hLa := hLa.below j (Nat.le_refl _); replace hAns := hAns.step j
   (try replace hI := hI.below j hI.lt); (try replace hW := hW.below j hW.lt); (try replace hO := hO.below j hO.lt); (try replace hL3 := hL3.below j (Nat.le_refl _)); (try replace hL1 := hL1.below j (Nat.le_refl _)); (try replace hAp := hAp.below j (Nat.le_refl _))
   replace kY := kY.trans (j.mono kY.size); clear j
   go_wp2_with fail
   refine hK.out _ _ (PtS.of hB hA) (fun hHeld => ?_)
   clear hK K
   try simp only [Act.put, pu1, pu2, pu3, pu4, pu5, pu6]
   refine wpAnyH_take (i := 13) (v := ?_) rfl (by kernel_rfl) (by kernel_rfl) (by kernel_rfl) (fun _ _ _ h => h) (Or.inl ⟨by rfl, ?_⟩) (by assumption) ?_
   rotate_left
   ·(intro Y hSw; (try dsimp only at hSw); obtain ⟨hS0, hS1, hS2, hS3⟩ := hSw; go_simp; try with_reducible rfl)
   try simp only [Act.put, pu1, pu2, pu3, pu4, pu5, pu6]
   refine wpAnyH_done (by kernel_rfl) ?_ _
   rw [onlyN_normal]
   obtain ⟨q, hq⟩ : ∃ q, putE s t (!rgtG st pg sz fi) la = q := ⟨_, rfl⟩
   rw [hq] at hE ⊢
   have HQ := Lib.hid hq
   have hq1 : (q == 0) = false := by simpa using hE
   clear hq
   go_wp2_with fail
   go_ret
   exact ⟨by rw [HQ.out]; rfl, kY⟩
  ·go_simp
   obtain ⟨g1, hg1⟩ : ∃ g, Y.heap.size = g := ⟨_, rfl⟩
   obtain ⟨Z, hZ⟩ : ∃ Z, Y.alloc (.cells (askListP (opAsk po s t)).toArray 70) = Z := ⟨_, rfl⟩
   have j : Below Y.heap.size Y Z := by rw [← hZ]; exact (Below.refl _ Y).alloc (Nat.le_refl _) _
   have hL1' : CellsAt Z g1 (askListP (opAsk po s t)) := by rw [← hZ, ← hg1]; exact CellsAt.of (Blk.new Y _ _)
   rw [show Y.alloc (.cells #[.func (.func 175) #[] #[.pointer (some ⟨po, 0, none⟩)], .int .i64 5] 70) = Z from hZ, hg1]
   clear hZ hg1
   replace h := h.step j; replace hB := hB.below j hB.lt; replace hA := hA.below j hA.lt; replace hP := hP.below j hP.lt; replace hR := hR.below j hR.lt; replace hLa := hLa.below j (Nat.le_refl _); replace hAns := hAns.step j
   (try replace hI := hI.below j hI.lt); (try replace hW := hW.below j hW.lt); (try replace hO := hO.below j hO.lt); (try replace hL3 := hL3.below j (Nat.le_refl _)); (try replace hL1 := hL1.below j (Nat.le_refl _)); (try replace hAp := hAp.below j (Nat.le_refl _))
   replace kY := kY.trans (j.mono kY.size); clear j
   have hL1 := hL1'
   clear hL1'
   refine hK.out _ _ (PtS.of hB hA) (fun hHeld => ?_)
   clear hK K
   try simp only [Act.put, pu1, pu2, pu3, pu4, pu5, pu6]
   obtain ⟨Y, rfl⟩ : ∃ Y : World, Y = Z := ⟨_, rfl⟩
   refine wpAnyH_ready (rs := [5, 10]) (by kernel_rfl) (by simp) ?_
   refine AllReadyH.cons rfl (fun K hK => ?_) (AllReadyH.cons rfl (fun K hK => ?_) AllReadyH.nil)
   ·go_simp
    obtain ⟨g3, hg3⟩ : ∃ g, Y.heap.size = g := ⟨_, rfl⟩
    obtain ⟨Z, hZ⟩ : ∃ Z, Y.alloc (.cells (askListP (preAsks pi pw 126 b6 b7 t (!rgtG st pg sz fi))).toArray 70) = Z := ⟨_, rfl⟩
    have j : Below Y.heap.size Y Z := by rw [← hZ]; exact (Below.refl _ Y).alloc (Nat.le_refl _) _
    have hL3' : CellsAt Z g3 (askListP (preAsks pi pw 126 b6 b7 t (!rgtG st pg sz fi))) := by rw [← hZ, ← hg3]; exact CellsAt.of (Blk.new Y _ _)
    rw [show Y.alloc (.cells #[.func (.func 85) #[] #[.pointer (some ⟨pi, 0, none⟩)], .int .i64 1, .func (.func 62) #[] #[.pointer (some ⟨pw, 0, none⟩)], .int .i64 2, .func (.func 126) #[] #[.pointer (some ⟨b6, 0, none⟩), .pointer (some ⟨b7, 0, none⟩)], .int .i64 2] 70) = Z from hZ, hg3]
    clear hZ hg3
    replace h := h.step j; replace hB := hB.below j hB.lt; replace hA := hA.below j hA.lt; replace hP := hP.below j hP.lt; replace hR := hR.below j hR.lt; replace hLa := hLa.below j (Nat.le_refl _); replace hAns := hAns.step j
    (try replace hI := hI.below j hI.lt); (try replace hW := hW.below j hW.lt); (try replace hO := hO.below j hO.lt); (try replace hL3 := hL3.below j (Nat.le_refl _)); (try replace hL1 := hL1.below j (Nat.le_refl _)); (try replace hAp := hAp.below j (Nat.le_refl _))
    replace kY := kY.trans (j.mono kY.size); clear j
    have hL3 := hL3'
    clear hL3'
    refine hK.out _ _ (PtS.of hB hA) (fun hHeld => ?_)
    clear hK K
    try simp only [Act.put, pu1, pu2, pu3, pu4, pu5, pu6]
    obtain ⟨Y, rfl⟩ : ∃ Y : World, Y = Z := ⟨_, rfl⟩
    refine wpAnyH_ready (rs := [10]) (by kernel_rfl) (by simp) ?_
    refine AllReadyH.cons rfl (fun K hK => ?_) AllReadyH.nil
    rw [if_pos (by rfl)]
    refine wp_append_full _ _ 116 rfl Tryz.underlying116 infoAsk lb la.length (askListP la) rfl (askListP_len la) hLa g1 1 1 (askListP (opAsk po s t)) rfl rfl hL1 (by omega) (by unfold maxLen; omega) (by omega) ?_
    intro ga ca Z hga j hAp'
    clear hga
    replace h := h.step j; replace hB := hB.below j hB.lt; replace hA := hA.below j hA.lt; replace hP := hP.below j hP.lt; replace hR := hR.below j hR.lt; replace hLa := hLa.below j (Nat.le_refl _); replace hAns := hAns.step j
    (try replace hI := hI.below j hI.lt); (try replace hW := hW.below j hW.lt); (try replace hO := hO.below j hO.lt); (try replace hL3 := hL3.below j (Nat.le_refl _)); (try replace hL1 := hL1.below j (Nat.le_refl _)); (try replace hAp := hAp.below j (Nat.le_refl _))
    replace kY := kY.trans (j.mono kY.size); clear j
    have hAp := hAp'
    clear hAp'
    refine hK.out _ _ (PtS.of hB hA) (fun hHeld => ?_)
    clear hK K
    try simp only [Act.put, pu1, pu2, pu3, pu4, pu5, pu6]
    obtain ⟨Y, rfl⟩ : ∃ Y : World, Y = Z := ⟨_, rfl⟩
    refine wpAnyH_ready (rs := [11]) (by kernel_rfl) (by simp) ?_
    refine AllReadyH.cons rfl (fun K hK => ?_) AllReadyH.nil
    rw [if_pos (by rfl)]
    refine wp_append_full _ _ 116 rfl Tryz.underlying116 infoAsk g3 3 (askListP (preAsks pi pw 126 b6 b7 t (!rgtG st pg sz fi))) rfl rfl hL3 ga (la.length + 1) ca (askListP la ++ askListP (opAsk po s t)) rfl (by rw [List.length_append, askListP_len, askListP_len]; simp [opAsk]; omega) hAp (by omega) (by unfold maxLen; omega) (by omega) ?_
    intro gz cz Z hgz j hAz'
    clear hgz
    replace h := h.step j; replace hB := hB.below j hB.lt; replace hA := hA.below j hA.lt; replace hP := hP.below j hP.lt; replace hR := hR.below j hR.lt; replace hLa := hLa.below j (Nat.le_refl _); replace hAns := hAns.step j
    (try replace hI := hI.below j hI.lt); (try replace hW := hW.below j hW.lt); (try replace hO := hO.below j hO.lt); (try replace hL3 := hL3.below j (Nat.le_refl _)); (try replace hL1 := hL1.below j (Nat.le_refl _)); (try replace hAp := hAp.below j (Nat.le_refl _))
    replace kY := kY.trans (j.mono kY.size); clear j
    have hAz := hAz'
    clear hAz'
    rw [← askListP_append, ← askListP_append] at hAz
    have hrow := Lib.hid (askRow_cells hAz)
    have hans := Lib.hid ((preAsk_ans (wr := !rgtG st pg sz fi) h hI hW (enters_of Tryz.func126 (by kernel_rfl) rfl) (fun X kx => mputG1_calls (hP.below kx hP.lt) (hR.below kx hR.lt))).append (hAns.append (opAsk_ans h hO)))
    clear hAz hAp hL1 hL3
    refine hK.out _ _ (PtS.of hB hA) (fun hHeld => ?_)
    clear hK K
    try simp only [Act.put, pu1, pu2, pu3, pu4, pu5, pu6]
    obtain ⟨Y, rfl⟩ : ∃ Y : World, Y = Z := ⟨_, rfl⟩
    refine wpAnyH_ready (rs := [12]) (by kernel_rfl) (by simp) ?_
    refine AllReadyH.cons rfl (fun K hK => ?_) AllReadyH.nil
    go_simp
    refine (asked_okM Y gz (3 + (la.length + 1)) cz _ (by simp [preAsks, opAsk]; omega) (by simp [preAsks, opAsk]; omega) hrow hans).mono ?_; rintro e Z ⟨rfl, j⟩
    rw [putE_eq]
    clear hrow hans
    replace h := h.step j; replace hB := hB.below j hB.lt; replace hA := hA.below j hA.lt; replace hP := hP.below j hP.lt; replace hR := hR.below j hR.lt; replace hLa := hLa.below j (Nat.le_refl _); replace hAns := hAns.step j
    (try replace hI := hI.below j hI.lt); (try replace hW := hW.below j hW.lt); (try replace hO := hO.below j hO.lt); (try replace hL3 := hL3.below j (Nat.le_refl _)); (try replace hL1 := hL1.below j (Nat.le_refl _)); (try replace hAp := hAp.below j (Nat.le_refl _))
    replace kY := kY.trans (j.mono kY.size); clear j
    go_wp2_with fail
    refine hK.out _ _ (PtS.of hB hA) (fun hHeld => ?_)
    clear hK K
    try simp only [Act.put, pu1, pu2, pu3, pu4, pu5, pu6]
    refine wpAnyH_take (i := 13) (v := ?_) rfl (by kernel_rfl) (by kernel_rfl) (by kernel_rfl) (fun _ _ _ h => h) (Or.inl ⟨by rfl, ?_⟩) (by assumption) ?_
    rotate_left
    ·(intro Y hSw; (try dsimp only at hSw); obtain ⟨hS0, hS1, hS2, hS3⟩ := hSw; go_simp; try with_reducible rfl)
    try simp only [Act.put, pu1, pu2, pu3, pu4, pu5, pu6]
    refine wpAnyH_done (by kernel_rfl) ?_ _
    rw [onlyN_normal]
    obtain ⟨q, hq⟩ : ∃ q, putE s t (!rgtG st pg sz fi) la = q := ⟨_, rfl⟩
    rw [hq] at hE ⊢
    have HQ := Lib.hid hq
    have hq1 : (q == 0) = false := by simpa using hE
    clear hq
    go_wp2_with fail
    go_ret
    exact ⟨by rw [HQ.out]; rfl, kY⟩
   ·rw [if_pos (by rfl)]
    refine wp_append_full _ _ 116 rfl Tryz.underlying116 infoAsk lb la.length (askListP la) rfl (askListP_len la) hLa g1 1 1 (askListP (opAsk po s t)) rfl rfl hL1 (by omega) (by unfold maxLen; omega) (by omega) ?_
    intro ga ca Z hga j hAp'
    clear hga
    replace h := h.step j; replace hB := hB.below j hB.lt; replace hA := hA.below j hA.lt; replace hP := hP.below j hP.lt; replace hR := hR.below j hR.lt; replace hLa := hLa.below j (Nat.le_refl _); replace hAns := hAns.step j
    (try replace hI := hI.below j hI.lt); (try replace hW := hW.below j hW.lt); (try replace hO := hO.below j hO.lt); (try replace hL3 := hL3.below j (Nat.le_refl _)); (try replace hL1 := hL1.below j (Nat.le_refl _)); (try replace hAp := hAp.below j (Nat.le_refl _))
    replace kY := kY.trans (j.mono kY.size); clear j
    have hAp := hAp'
    clear hAp'
    refine hK.out _ _ (PtS.of hB hA) (fun hHeld => ?_)
    clear hK K
    try simp only [Act.put, pu1, pu2, pu3, pu4, pu5, pu6]
    obtain ⟨Y, rfl⟩ : ∃ Y : World, Y = Z := ⟨_, rfl⟩
    refine wpAnyH_ready (rs := [5]) (by kernel_rfl) (by simp) ?_
    refine AllReadyH.cons rfl (fun K hK => ?_) AllReadyH.nil
    go_simp
    obtain ⟨g3, hg3⟩ : ∃ g, Y.heap.size = g := ⟨_, rfl⟩
    obtain ⟨Z, hZ⟩ : ∃ Z, Y.alloc (.cells (askListP (preAsks pi pw 126 b6 b7 t (!rgtG st pg sz fi))).toArray 70) = Z := ⟨_, rfl⟩
    have j : Below Y.heap.size Y Z := by rw [← hZ]; exact (Below.refl _ Y).alloc (Nat.le_refl _) _
    have hL3' : CellsAt Z g3 (askListP (preAsks pi pw 126 b6 b7 t (!rgtG st pg sz fi))) := by rw [← hZ, ← hg3]; exact CellsAt.of (Blk.new Y _ _)
    rw [show Y.alloc (.cells #[.func (.func 85) #[] #[.pointer (some ⟨pi, 0, none⟩)], .int .i64 1, .func (.func 62) #[] #[.pointer (some ⟨pw, 0, none⟩)], .int .i64 2, .func (.func 126) #[] #[.pointer (some ⟨b6, 0, none⟩), .pointer (some ⟨b7, 0, none⟩)], .int .i64 2] 70) = Z from hZ, hg3]
    clear hZ hg3
    replace h := h.step j; replace hB := hB.below j hB.lt; replace hA := hA.below j hA.lt; replace hP := hP.below j hP.lt; replace hR := hR.below j hR.lt; replace hLa := hLa.below j (Nat.le_refl _); replace hAns := hAns.step j
    (try replace hI := hI.below j hI.lt); (try replace hW := hW.below j hW.lt); (try replace hO := hO.below j hO.lt); (try replace hL3 := hL3.below j (Nat.le_refl _)); (try replace hL1 := hL1.below j (Nat.le_refl _)); (try replace hAp := hAp.below j (Nat.le_refl _))
    replace kY := kY.trans (j.mono kY.size); clear j
    have hL3 := hL3'
    clear hL3'
    refine hK.out _ _ (PtS.of hB hA) (fun hHeld => ?_)
    clear hK K
    try simp only [Act.put, pu1, pu2, pu3, pu4, pu5, pu6]
    obtain ⟨Y, rfl⟩ : ∃ Y : World, Y = Z := ⟨_, rfl⟩
    refine wpAnyH_ready (rs := [11]) (by kernel_rfl) (by simp) ?_
    refine AllReadyH.cons rfl (fun K hK => ?_) AllReadyH.nil
    rw [if_pos (by rfl)]
    refine wp_append_full _ _ 116 rfl Tryz.underlying116 infoAsk g3 3 (askListP (preAsks pi pw 126 b6 b7 t (!rgtG st pg sz fi))) rfl rfl hL3 ga (la.length + 1) ca (askListP la ++ askListP (opAsk po s t)) rfl (by rw [List.length_append, askListP_len, askListP_len]; simp [opAsk]; omega) hAp (by omega) (by unfold maxLen; omega) (by omega) ?_
    intro gz cz Z hgz j hAz'
    clear hgz
    replace h := h.step j; replace hB := hB.below j hB.lt; replace hA := hA.below j hA.lt; replace hP := hP.below j hP.lt; replace hR := hR.below j hR.lt; replace hLa := hLa.below j (Nat.le_refl _); replace hAns := hAns.step j
    (try replace hI := hI.below j hI.lt); (try replace hW := hW.below j hW.lt); (try replace hO := hO.below j hO.lt); (try replace hL3 := hL3.below j (Nat.le_refl _)); (try replace hL1 := hL1.below j (Nat.le_refl _)); (try replace hAp := hAp.below j (Nat.le_refl _))
    replace kY := kY.trans (j.mono kY.size); clear j
    have hAz := hAz'
    clear hAz'
    rw [← askListP_append, ← askListP_append] at hAz
    have hrow := Lib.hid (askRow_cells hAz)
    have hans := Lib.hid ((preAsk_ans (wr := !rgtG st pg sz fi) h hI hW (enters_of Tryz.func126 (by kernel_rfl) rfl) (fun X kx => mputG1_calls (hP.below kx hP.lt) (hR.below kx hR.lt))).append (hAns.append (opAsk_ans h hO)))
    clear hAz hAp hL1 hL3
    refine hK.out _ _ (PtS.of hB hA) (fun hHeld => ?_)
    clear hK K
    try simp only [Act.put, pu1, pu2, pu3, pu4, pu5, pu6]
    obtain ⟨Y, rfl⟩ : ∃ Y : World, Y = Z := ⟨_, rfl⟩
    refine wpAnyH_ready (rs := [12]) (by kernel_rfl) (by simp) ?_
    refine AllReadyH.cons rfl (fun K hK => ?_) AllReadyH.nil
    go_simp
    refine (asked_okM Y gz (3 + (la.length + 1)) cz _ (by simp [preAsks, opAsk]; omega) (by simp [preAsks, opAsk]; omega) hrow hans).mono ?_; rintro e Z ⟨rfl, j⟩
    rw [putE_eq]
    clear hrow hans
    replace h := h.step j; replace hB := hB.below j hB.lt; replace hA := hA.below j hA.lt; replace hP := hP.below j hP.lt; replace hR := hR.below j hR.lt; replace hLa := hLa.below j (Nat.le_refl _); replace hAns := hAns.step j
    (try replace hI := hI.below j hI.lt); (try replace hW := hW.below j hW.lt); (try replace hO := hO.below j hO.lt); (try replace hL3 := hL3.below j (Nat.le_refl _)); (try replace hL1 := hL1.below j (Nat.le_refl _)); (try replace hAp := hAp.below j (Nat.le_refl _))
    replace kY := kY.trans (j.mono kY.size); clear j
    go_wp2_with fail
    refine hK.out _ _ (PtS.of hB hA) (fun hHeld => ?_)
    clear hK K
    try simp only [Act.put, pu1, pu2, pu3, pu4, pu5, pu6]
    refine wpAnyH_take (i := 13) (v := ?_) rfl (by kernel_rfl) (by kernel_rfl) (by kernel_rfl) (fun _ _ _ h => h) (Or.inl ⟨by rfl, ?_⟩) (by assumption) ?_
    rotate_left
    ·(intro Y hSw; (try dsimp only at hSw); obtain ⟨hS0, hS1, hS2, hS3⟩ := hSw; go_simp; try with_reducible rfl)
    try simp only [Act.put, pu1, pu2, pu3, pu4, pu5, pu6]
    refine wpAnyH_done (by kernel_rfl) ?_ _
    rw [onlyN_normal]
    obtain ⟨q, hq⟩ : ∃ q, putE s t (!rgtG st pg sz fi) la = q := ⟨_, rfl⟩
    rw [hq] at hE ⊢
    have HQ := Lib.hid hq
    have hq1 : (q == 0) = false := by simpa using hE
    clear hq
    go_wp2_with fail
    go_ret
    exact ⟨by rw [HQ.out]; rfl, kY⟩
end Go.Proofs.YtlpchcdalfkfcaaGreat

