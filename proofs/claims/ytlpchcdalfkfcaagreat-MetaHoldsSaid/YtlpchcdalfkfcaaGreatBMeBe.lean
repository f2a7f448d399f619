/-
 Package meta: getting a great record. Conditions: a memory's books in order.
-/
import Derived.Test.YtlpchcdalfkfcaaGreatBMeBd
import Derived.Test.YtlpchcdalfkfcaaGreatBMeY
namespace Go.Proofs.YtlpchcdalfkfcaaGreat
open Go.RowKit Go.ChangeShapes
attribute [local go_sem] Oper.semAt_some
set_option maxHeartbeats 8000000
set_option maxRecDepth 8000

variable {w0 w : World} {k : Mb} {s : Ms}
/-- What is got of bytes: a record, an error. -/
def grtV (L : List Int) : Value := if grtOk L = true then .agg #[.int .i64 (grtJ L 6).1, .int .i64 (grtJ L 6).2.1, .int .i64 (grtJ L 6).2.2.1, .int .i64 (grtJ L 6).2.2.2] else .agg #[.int .i64 0, .int .i64 0, .int .i64 0, .int .i64 0]
def grtN (L : List Int) : Int := if grtOk L = true then 0 else 251
theorem peek_rowG {Z : World} {base : Nat} {v : Value} {L : List Int} (hl : L.length = 16) (h : Z.ownsRow base 5 1 v L.length (intVals .u8 L)) :
  ∃ g c, v = .slice (some ⟨g, 0, none⟩) 16 c ∧ RowAt Z.heap.size Z (.slice (some ⟨g, 0, none⟩) 16 c) 16 (intVals .u8 L) ∧ 16 ≤ c ∧ c ≤ maxLen := by
 have hr := RowAt.of_owns h (Nat.le_refl _)
 rw [hl] at h hr
 rcases h.2 with ⟨_, h8⟩ | ⟨g, c, cur, rfl, _, _, h1, h2, _⟩
 ·cases h8
 ·exact ⟨g, c, rfl, hr, h1, h2⟩
theorem mgetG_yes (h : LivM w0 w k s) (t at_ : Int) (a0 : 0 ≤ at_) (a1 : at_ ≤ 600000) (g lb : Nat) (hG : Blk w g parG 178) (la : List AskP) (hla : la ≠ []) (hla2 : la.length ≤ 100) (hLa : CellsAt w lb (askListP la)) (hAns : AnswersP w la) (hE : gtE s t la = 0) (L : List Int) (hPk : rchE s.D (-2) (bkO t * 256 + at_) 16 1 = 0 ∧ rdA s (-2) (bkO t * 256 + at_) 16 = L ∧ L.length = 16 ∧ ∀ x ∈ L, 0 ≤ x ∧ x < 256) :
  Calls Tryz.prog 54 #[.agg #[.pointer (some ⟨k.b, 0, none⟩), .int .i64 t], .agg #[.slice (some ⟨g, 0, none⟩) 6 6, .func (.func 122) #[] #[]], .int .i64 at_, .int .i64 16, .slice (some ⟨lb, 0, none⟩) la.length la.length] w
   fun e w' => e = .returned (.tuple #[grtV L, .int .i64 (grtN L)]) ∧ Below w.heap.size w w' := by
 obtain ⟨Y, hY⟩ : ∃ Y, ((w.alloc (.cells #[.pointer (some ⟨k.b, 0, none⟩), .int .i64 t] 72)).alloc (.cells #[.slice (some ⟨g, 0, none⟩) 6 6, .func (.func 122) #[] #[]] 112)).alloc (.cells #[.int .i64 0, .int .i64 0, .int .i64 0, .int .i64 0] 54) = Y := ⟨_, rfl⟩
 have hB : Blk Y w.heap.size #[.pointer (some ⟨k.b, 0, none⟩), .int .i64 t] 72 := by rw [← hY]; exact ((Blk.new w _ _).alloc _).alloc _
 have hP : Blk Y (w.heap.size + 1) #[.slice (some ⟨g, 0, none⟩) 6 6, .func (.func 122) #[] #[]] 112 := by rw [← hY]; exact (Blk.newAt _ _ _ (by simp)).alloc _
 have hR : Blk Y (w.heap.size + 1 + 1) #[.int .i64 0, .int .i64 0, .int .i64 0, .int .i64 0] 54 := by rw [← hY]; exact Blk.newAt _ _ _ (by simp)
 have kY : Below w.heap.size w Y := by rw [← hY]; exact (((Below.refl _ w).alloc (Nat.le_refl _) _).alloc (by simp) _).alloc (by simp; omega) _
 replace h := h.step kY
 replace hG := hG.below kY hG.lt
 obtain ⟨bk0, bk1⟩ := bkO_bd t
 have e1 : IntKind.i64.wrap (bkO t * 256) = bkO t * 256 := IntWalk.i64_in _ (by omega)
 have e2 : IntKind.i64.wrap (bkO t * 256 + at_) = bkO t * 256 + at_ := IntWalk.i64_in _ (by omega)
 have e3 : IntKind.u32.wrap (bkO t * 256 + at_) = bkO t * 256 + at_ := IntWalk.u32_in _ (by omega)
 replace hLa := hLa.below kY (Nat.le_refl _)
 replace hAns := hAns.step kY
 have hl0 : 0 < la.length := List.length_pos_iff.2 hla
 go_enter Tryz.func54, Tryz.ntmps54
 go_wp2_with fail
 clear hY
 obtain ⟨b10, hb⟩ : ∃ b, w.heap.size + 1 + 1 = b := ⟨_, rfl⟩
 rw [hb] at hR ⊢
 have hb10 : w.heap.size ≤ b10 := by omega
 clear hb
 obtain ⟨b6, hb6⟩ : ∃ b, w.heap.size + 1 = b := ⟨_, rfl⟩
 rw [hb6] at hP ⊢
 clear hb6
 obtain ⟨b5, hb5⟩ : ∃ b, w.heap.size = b := ⟨_, rfl⟩
 rw [hb5] at hB ⊢
 clear hb5
 refine wp_onlyN ?_
 refine wp_region_held_drew (S := BkS b5 (.pointer (some ⟨k.b, 0, none⟩)) t) (by kernel_rfl) (BkS.of hB) (fun hHeld => ?_)
 obtain ⟨Z, hZ⟩ : ∃ Z, Y.drew = Z := ⟨_, rfl⟩
 have j : Below Y.heap.size Y Z := by rw [← hZ]; exact (Below.refl _ Y).drew
 rw [hZ] at hHeld ⊢
 clear hZ
 replace h := h.step j; replace hB := hB.below j hB.lt; replace hP := hP.below j hP.lt; replace hR := hR.below j hR.lt; replace hLa := hLa.below j (Nat.le_refl _); replace hAns := hAns.step j
 replace hG := hG.below j hG.lt; (try replace hI := hI.below j hI.lt); (try replace hW := hW.below j hW.lt); (try replace hO := hO.below j hO.lt); (try replace hL3 := hL3.below j (Nat.le_refl _)); (try replace hL1 := hL1.below j (Nat.le_refl _)); (try replace hAp := hAp.below j (Nat.le_refl _))
 replace kY := kY.trans (j.mono kY.size); clear j
 obtain ⟨Y, rfl⟩ : ∃ Y : World, Y = Z := ⟨_, rfl⟩
 refine wpAnyH_take (i := 0) (v := ?_) rfl (by kernel_rfl) (by kernel_rfl) (by kernel_rfl) (fun _ _ _ h => h) (Or.inl ⟨by rfl, ?_⟩) (by assumption) ?_
 rotate_left
 ·(intro Y hSw; (try dsimp only at hSw); obtain ⟨hS0, hS1⟩ := hSw; go_simp; try with_reducible rfl)
 try simp only [Act.put, pu1, pu2, pu3, pu4, pu5, pu6]
 refine wpAnyH_take (i := 2) (v := ?_) rfl (by kernel_rfl) (by kernel_rfl) (by kernel_rfl) (fun _ _ _ h => h) (Or.inl ⟨by rfl, ?_⟩) (by assumption) ?_
 rotate_left
 ·(intro Y hSw; (try dsimp only at hSw); obtain ⟨hS0, hS1⟩ := hSw; go_simp; try with_reducible rfl)
 try simp only [Act.put, pu1, pu2, pu3, pu4, pu5, pu6]
 refine wpAnyH_take (i := 5) (v := ?_) rfl (by kernel_rfl) (by kernel_rfl) (by kernel_rfl) (fun _ _ _ h => h) (Or.inl ⟨by rfl, ?_⟩) (by assumption) ?_
 rotate_left
 ·(intro Y hSw; (try dsimp only at hSw); obtain ⟨hS0, hS1⟩ := hSw; go_simp; try with_reducible rfl)
 try simp only [Act.put, pu1, pu2, pu3, pu4, pu5, pu6]
 refine wpAnyH_take (i := 6) (v := ?_) rfl (by kernel_rfl) (by kernel_rfl) (by kernel_rfl) (fun _ _ _ h => h) (Or.inl ⟨by rfl, ?_⟩) (by assumption) ?_
 rotate_left
 ·(intro Y hSw; (try dsimp only at hSw); obtain ⟨hS0, hS1⟩ := hSw; go_simp; try with_reducible rfl)
 try simp only [Act.put, pu1, pu2, pu3, pu4, pu5, pu6]
 refine wpAnyH_ready (rs := [1]) (by kernel_rfl) (by simp) ?_
 refine AllReadyH.cons rfl (fun K hK => ?_) AllReadyH.nil
 go_simp
 refine (mis_calls _ t _).mono ?_; rintro e Z ⟨pi, rfl, hI, j⟩
 replace h := h.step j; replace hB := hB.below j hB.lt; replace hP := hP.below j hP.lt; replace hR := hR.below j hR.lt; replace hLa := hLa.below j (Nat.le_refl _); replace hAns := hAns.step j
 replace hG := hG.below j hG.lt; (try replace hI := hI.below j hI.lt); (try replace hW := hW.below j hW.lt); (try replace hO := hO.below j hO.lt); (try replace hL3 := hL3.below j (Nat.le_refl _)); (try replace hL1 := hL1.below j (Nat.le_refl _)); (try replace hAp := hAp.below j (Nat.le_refl _))
 replace kY := kY.trans (j.mono kY.size); clear j
 go_wp2_with fail
 refine hK.out _ _ (BkS.of hB) (fun hHeld => ?_)
 clear hK K
 try simp only [Act.put, pu1, pu2, pu3, pu4, pu5, pu6]
 obtain ⟨Y, rfl⟩ : ∃ Y : World, Y = Z := ⟨_, rfl⟩
 refine wpAnyH_ready (rs := [3]) (by kernel_rfl) (by simp) ?_
 refine AllReadyH.cons rfl (fun K hK => ?_) AllReadyH.nil
 go_simp
 refine (mwho_calls _ t _).mono ?_; rintro e Z ⟨pw, rfl, hW, j⟩
 replace h := h.step j; replace hB := hB.below j hB.lt; replace hP := hP.below j hP.lt; replace hR := hR.below j hR.lt; replace hLa := hLa.below j (Nat.le_refl _); replace hAns := hAns.step j
 replace hG := hG.below j hG.lt; (try replace hI := hI.below j hI.lt); (try replace hW := hW.below j hW.lt); (try replace hO := hO.below j hO.lt); (try replace hL3 := hL3.below j (Nat.le_refl _)); (try replace hL1 := hL1.below j (Nat.le_refl _)); (try replace hAp := hAp.below j (Nat.le_refl _))
 replace kY := kY.trans (j.mono kY.size); clear j
 go_wp2_with fail
 refine hK.out _ _ (BkS.of hB) (fun hHeld => ?_)
 clear hK K
 try simp only [Act.put, pu1, pu2, pu3, pu4, pu5, pu6]
 obtain ⟨Y, rfl⟩ : ∃ Y : World, Y = Z := ⟨_, rfl⟩
 refine wpAnyH_ready (rs := [4, 7]) (by kernel_rfl) (by simp) ?_
 refine AllReadyH.cons rfl (fun K hK => ?_) (AllReadyH.cons rfl (fun K hK => ?_) AllReadyH.nil)
 ·go_simp
  obtain ⟨g3, hg3⟩ : ∃ g, Y.heap.size = g := ⟨_, rfl⟩
  obtain ⟨Z, hZ⟩ : ∃ Z, Y.alloc (.cells (askListP (getAsks pi pw t)).toArray 70) = Z := ⟨_, rfl⟩
  have j : Below Y.heap.size Y Z := by rw [← hZ]; exact (Below.refl _ Y).alloc (Nat.le_refl _) _
  have hL3' : CellsAt Z g3 (askListP (getAsks pi pw t)) := by rw [← hZ, ← hg3]; exact CellsAt.of (Blk.new Y _ _)
  rw [show Y.alloc (.cells #[.func (.func 85) #[] #[.pointer (some ⟨pi, 0, none⟩)], .int .i64 1, .func (.func 62) #[] #[.pointer (some ⟨pw, 0, none⟩)], .int .i64 2] 70) = Z from hZ, hg3]
  clear hZ hg3
  replace h := h.step j; replace hB := hB.below j hB.lt; replace hP := hP.below j hP.lt; replace hR := hR.below j hR.lt; replace hLa := hLa.below j (Nat.le_refl _); replace hAns := hAns.step j
  replace hG := hG.below j hG.lt; (try replace hI := hI.below j hI.lt); (try replace hW := hW.below j hW.lt); (try replace hO := hO.below j hO.lt); (try replace hL3 := hL3.below j (Nat.le_refl _)); (try replace hL1 := hL1.below j (Nat.le_refl _)); (try replace hAp := hAp.below j (Nat.le_refl _))
  replace kY := kY.trans (j.mono kY.size); clear j
  have hL3 := hL3'
  clear hL3'
  refine hK.out _ _ (BkS.of hB) (fun hHeld => ?_)
  clear hK K
  try simp only [Act.put, pu1, pu2, pu3, pu4, pu5, pu6]
  obtain ⟨Y, rfl⟩ : ∃ Y : World, Y = Z := ⟨_, rfl⟩
  refine wpAnyH_ready (rs := [7]) (by kernel_rfl) (by simp) ?_
  refine AllReadyH.cons rfl (fun K hK => ?_) AllReadyH.nil
  go_simp
  refine (mopened_calls _ t _).mono ?_; rintro e Z ⟨po, rfl, hO, j⟩
  replace h := h.step j; replace hB := hB.below j hB.lt; replace hP := hP.below j hP.lt; replace hR := hR.below j hR.lt; replace hLa := hLa.below j (Nat.le_refl _); replace hAns := hAns.step j
  replace hG := hG.below j hG.lt; (try replace hI := hI.below j hI.lt); (try replace hW := hW.below j hW.lt); (try replace hO := hO.below j hO.lt); (try replace hL3 := hL3.below j (Nat.le_refl _)); (try replace hL1 := hL1.below j (Nat.le_refl _)); (try replace hAp := hAp.below j (Nat.le_refl _))
  replace kY := kY.trans (j.mono kY.size); clear j
  go_wp2_with fail
  refine hK.out _ _ (BkS.of hB) (fun hHeld => ?_)
  clear hK K
  try simp only [Act.put, pu1, pu2, pu3, pu4, pu5, pu6]
  obtain ⟨Y, rfl⟩ : ∃ Y : World, Y = Z := ⟨_, rfl⟩
  refine wpAnyH_ready (rs := [8]) (by kernel_rfl) (by simp) ?_
  refine AllReadyH.cons rfl (fun K hK => ?_) AllReadyH.nil
  go_simp
  obtain ⟨g1, hg1⟩ : ∃ g, Y.heap.size = g := ⟨_, rfl⟩
  obtain ⟨Z, hZ⟩ : ∃ Z, Y.alloc (.cells (askListP (opAsk po s t)).toArray 70) = Z := ⟨_, rfl⟩
  have j : Below Y.heap.size Y Z := by rw [← hZ]; exact (Below.refl _ Y).alloc (Nat.le_refl _) _
  have hL1' : CellsAt Z g1 (askListP (opAsk po s t)) := by rw [← hZ, ← hg1]; exact CellsAt.of (Blk.new Y _ _)
  rw [show Y.alloc (.cells #[.func (.func 175) #[] #[.pointer (some ⟨po, 0, none⟩)], .int .i64 5] 70) = Z from hZ, hg1]
  clear hZ hg1
  replace h := h.step j; replace hB := hB.below j hB.lt; replace hP := hP.below j hP.lt; replace hR := hR.below j hR.lt; replace hLa := hLa.below j (Nat.le_refl _); replace hAns := hAns.step j
  replace hG := hG.below j hG.lt; (try replace hI := hI.below j hI.lt); (try replace hW := hW.below j hW.lt); (try replace hO := hO.below j hO.lt); (try replace hL3 := hL3.below j (Nat.le_refl _)); (try replace hL1 := hL1.below j (Nat.le_refl _)); (try replace hAp := hAp.below j (Nat.le_refl _))
  replace kY := kY.trans (j.mono kY.size); clear j
  have hL1 := hL1'
  clear hL1'
  refine hK.out _ _ (BkS.of hB) (fun hHeld => ?_)
  clear hK K
  try simp only [Act.put, pu1, pu2, pu3, pu4, pu5, pu6]
  obtain ⟨Y, rfl⟩ : ∃ Y : World, Y = Z := ⟨_, rfl⟩
  refine wpAnyH_ready (rs := [9]) (by kernel_rfl) (by simp) ?_
  refine AllReadyH.cons rfl (fun K hK => ?_) AllReadyH.nil
  rw [if_pos (by rfl)]
  refine wp_append_full _ _ 116 rfl Tryz.underlying116 infoAsk lb la.length (askListP la) rfl (askListP_len la) hLa g1 1 1 (askListP (opAsk po s t)) rfl rfl hL1 (by omega) (by unfold maxLen; omega) (by omega) ?_
  intro ga ca Z hga j hAp'
  clear hga
  replace h := h.step j; replace hB := hB.below j hB.lt; replace hP := hP.below j hP.lt; replace hR := hR.below j hR.lt; replace hLa := hLa.below j (Nat.le_refl _); replace hAns := hAns.step j
  replace hG := hG.below j hG.lt; (try replace hI := hI.below j hI.lt); (try replace hW := hW.below j hW.lt); (try replace hO := hO.below j hO.lt); (try replace hL3 := hL3.below j (Nat.le_refl _)); (try replace hL1 := hL1.below j (Nat.le_refl _)); (try replace hAp := hAp.below j (Nat.le_refl _))
  replace kY := kY.trans (j.mono kY.size); clear j
  have hAp := hAp'
  clear hAp'
  refine hK.out _ _ (BkS.of hB) (fun hHeld => ?_)
  clear hK K
  try simp only [Act.put, pu1, pu2, pu3, pu4, pu5, pu6]
  obtain ⟨Y, rfl⟩ : ∃ Y : World, Y = Z := ⟨_, rfl⟩
  refine wpAnyH_ready (rs := [10]) (by kernel_rfl) (by simp) ?_
  refine AllReadyH.cons rfl (fun K hK => ?_) AllReadyH.nil
  rw [if_pos (by rfl)]
  refine wp_append_full _ _ 116 rfl Tryz.underlying116 infoAsk g3 2 (askListP (getAsks pi pw t)) rfl rfl hL3 ga (la.length + 1) ca (askListP la ++ askListP (opAsk po s t)) rfl (by rw [List.length_append, askListP_len, askListP_len]; simp [opAsk]; omega) hAp (by omega) (by unfold maxLen; omega) (by omega) ?_
  intro gz cz Z hgz j hAz'
  clear hgz
  replace h := h.step j; replace hB := hB.below j hB.lt; replace hP := hP.below j hP.lt; replace hR := hR.below j hR.lt; replace hLa := hLa.below j (Nat.le_refl _); replace hAns := hAns.step j
  replace hG := hG.below j hG.lt; (try replace hI := hI.below j hI.lt); (try replace hW := hW.below j hW.lt); (try replace hO := hO.below j hO.lt); (try replace hL3 := hL3.below j (Nat.le_refl _)); (try replace hL1 := hL1.below j (Nat.le_refl _)); (try replace hAp := hAp.below j (Nat.le_refl _))
  replace kY := kY.trans (j.mono kY.size); clear j
  have hAz := hAz'
  clear hAz'
  rw [← askListP_append, ← askListP_append] at hAz
  have hrow := Lib.hid (askRow_cells hAz)
  have hans := Lib.hid ((getAsk_ans h hI hW).append (hAns.append (opAsk_ans h hO)))
  clear hAz hAp hL1 hL3
  refine hK.out _ _ (BkS.of hB) (fun hHeld => ?_)
  clear hK K
  try simp only [Act.put, pu1, pu2, pu3, pu4, pu5, pu6]
  obtain ⟨Y, rfl⟩ : ∃ Y : World, Y = Z := ⟨_, rfl⟩
  refine wpAnyH_ready (rs := [11]) (by kernel_rfl) (by simp) ?_
  refine AllReadyH.cons rfl (fun K hK => ?_) AllReadyH.nil
  go_simp
  refine (asked_okM Y gz (2 + (la.length + 1)) cz _ (by simp [getAsks, opAsk]; omega) (by simp [getAsks, opAsk]; omega) hrow hans).mono ?_; rintro e Z ⟨rfl, j⟩
  rw [getE_eq]
  clear hrow hans
  replace h := h.step j; replace hB := hB.below j hB.lt; replace hP := hP.below j hP.lt; replace hR := hR.below j hR.lt; replace hLa := hLa.below j (Nat.le_refl _); replace hAns := hAns.step j
  replace hG := hG.below j hG.lt; (try replace hI := hI.below j hI.lt); (try replace hW := hW.below j hW.lt); (try replace hO := hO.below j hO.lt); (try replace hL3 := hL3.below j (Nat.le_refl _)); (try replace hL1 := hL1.below j (Nat.le_refl _)); (try replace hAp := hAp.below j (Nat.le_refl _))
  replace kY := kY.trans (j.mono kY.size); clear j
  go_wp2_with fail
  refine hK.out _ _ (BkS.of hB) (fun hHeld => ?_)
  clear hK K
  try simp only [Act.put, pu1, pu2, pu3, pu4, pu5, pu6]
  refine wpAnyH_take (i := 12) (v := ?_) rfl (by kernel_rfl) (by kernel_rfl) (by kernel_rfl) (fun _ _ _ h => h) (Or.inl ⟨by rfl, ?_⟩) (by assumption) ?_
  rotate_left
  ·(intro Y hSw; (try dsimp only at hSw); obtain ⟨hS0, hS1⟩ := hSw; go_simp; try with_reducible rfl)
  try simp only [Act.put, pu1, pu2, pu3, pu4, pu5, pu6]
  refine wpAnyH_done (by kernel_rfl) ?_ _
  rw [onlyN_normal]
  clear hI hW hO
  go_wp2_with fail
  refine wp_onlyN ?_
  refine wp_region_held_drew (S := BkS b5 (.pointer (some ⟨k.b, 0, none⟩)) t) (by kernel_rfl) (BkS.of hB) (fun hHeld2 => ?_)
  obtain ⟨Z2, hZ2⟩ : ∃ Z2, Z.drew = Z2 := ⟨_, rfl⟩
  have j : Below Z.heap.size Z Z2 := by rw [← hZ2]; exact (Below.refl _ Z).drew
  rw [hZ2] at hHeld2 ⊢
  clear hZ2
  replace h := h.step j; replace hB := hB.below j hB.lt; replace hP := hP.below j hP.lt; replace hR := hR.below j hR.lt; replace hLa := hLa.below j (Nat.le_refl _); replace hAns := hAns.step j
  replace hG := hG.below j hG.lt; (try replace hI := hI.below j hI.lt); (try replace hW := hW.below j hW.lt); (try replace hO := hO.below j hO.lt); (try replace hL3 := hL3.below j (Nat.le_refl _)); (try replace hL1 := hL1.below j (Nat.le_refl _)); (try replace hAp := hAp.below j (Nat.le_refl _))
  replace kY := kY.trans (j.mono kY.size); clear j
  obtain ⟨Y, rfl⟩ : ∃ Y : World, Y = Z2 := ⟨_, rfl⟩
  refine wpAnyH_take (i := 0) (v := ?_) rfl (by kernel_rfl) (by kernel_rfl) (by kernel_rfl) (fun _ _ _ h => h) (Or.inl ⟨by rfl, ?_⟩) (by assumption) ?_
  rotate_left
  ·(intro Y hSw; (try dsimp only at hSw); obtain ⟨hS0, hS1⟩ := hSw; go_simp; try with_reducible rfl)
  try simp only [Act.put, pu1, pu2, pu3, pu4, pu5, pu6]
  refine wpAnyH_take (i := 1) (v := ?_) rfl (by kernel_rfl) (by kernel_rfl) (by kernel_rfl) (fun _ _ _ h => h) (Or.inl ⟨by rfl, ?_⟩) (by assumption) ?_
  rotate_left
  ·(intro Y hSw; (try dsimp only at hSw); obtain ⟨hS0, hS1⟩ := hSw; go_simp; try with_reducible rfl)
  try simp only [Act.put, pu1, pu2, pu3, pu4, pu5, pu6]
  refine wpAnyH_take (i := 2) (v := ?_) rfl (by kernel_rfl) (by kernel_rfl) (by kernel_rfl) (fun _ _ _ h => h) (Or.inl ⟨by rfl, ?_⟩) (by assumption) ?_
  rotate_left
  ·(intro Y hSw; (try dsimp only at hSw); obtain ⟨hS0, hS1⟩ := hSw; go_simp; try with_reducible rfl)
  try simp only [Act.put, pu1, pu2, pu3, pu4, pu5, pu6]
  refine wpAnyH_take (i := 5) (v := ?_) rfl (by kernel_rfl) (by kernel_rfl) (by kernel_rfl) (fun _ _ _ h => h) (Or.inl ⟨by rfl, ?_⟩) (by assumption) ?_
  rotate_left
  ·(intro Y hSw; (try dsimp only at hSw); obtain ⟨hS0, hS1⟩ := hSw; go_simp; try with_reducible rfl)
  try simp only [Act.put, pu1, pu2, pu3, pu4, pu5, pu6]
  refine wpAnyH_take (i := 8) (v := ?_) rfl (by kernel_rfl) (by kernel_rfl) (by kernel_rfl) (fun _ _ _ h => h) (Or.inl ⟨by rfl, ?_⟩) (by assumption) ?_
  rotate_left
  ·(intro Y hSw; (try dsimp only at hSw); obtain ⟨hS0, hS1⟩ := hSw; go_simp; try with_reducible rfl)
  try simp only [Act.put, pu1, pu2, pu3, pu4, pu5, pu6]
  refine wpAnyH_ready (rs := [3]) (by kernel_rfl) (by simp) ?_
  refine AllReadyH.cons rfl (fun K hK => ?_) AllReadyH.nil
  go_simp
  refine (mbase_calls _ t _).mono ?_; rintro e Z ⟨rfl, j⟩
  replace h := h.step j; replace hB := hB.below j hB.lt; replace hP := hP.below j hP.lt; replace hR := hR.below j hR.lt; replace hLa := hLa.below j (Nat.le_refl _); replace hAns := hAns.step j
  replace hG := hG.below j hG.lt; (try replace hI := hI.below j hI.lt); (try replace hW := hW.below j hW.lt); (try replace hO := hO.below j hO.lt); (try replace hL3 := hL3.below j (Nat.le_refl _)); (try replace hL1 := hL1.below j (Nat.le_refl _)); (try replace hAp := hAp.below j (Nat.le_refl _))
  replace kY := kY.trans (j.mono kY.size); clear j
  go_wp2_with fail
  refine hK.out _ _ (BkS.of hB) (fun hHeld => ?_)
  clear hK K
  try simp only [Act.put, pu1, pu2, pu3, pu4, pu5, pu6]
  obtain ⟨Y, rfl⟩ : ∃ Y : World, Y = Z := ⟨_, rfl⟩
  refine wpAnyH_take (i := 4) (v := ?_) rfl (by kernel_rfl) (by kernel_rfl) (by kernel_rfl) (fun _ _ _ h => h) (Or.inl ⟨by rfl, ?_⟩) (by assumption) ?_
  rotate_left
  ·(intro Y hSw; (try dsimp only at hSw); obtain ⟨hS0, hS1⟩ := hSw; go_simp; try with_reducible rfl)
  try simp only [Act.put, pu1, pu2, pu3, pu4, pu5, pu6]
  refine wpAnyH_take (i := 6) (v := ?_) rfl (by kernel_rfl) (by kernel_rfl) (by kernel_rfl) (fun _ _ _ h => h) (Or.inl ⟨by rfl, ?_⟩) (by assumption) ?_
  rotate_left
  ·(intro Y hSw; (try dsimp only at hSw); obtain ⟨hS0, hS1⟩ := hSw; go_simp; try with_reducible rfl)
  try simp only [Act.put, pu1, pu2, pu3, pu4, pu5, pu6]
  refine wpAnyH_take (i := 7) (v := ?_) rfl (by kernel_rfl) (by kernel_rfl) (by kernel_rfl) (fun _ _ _ h => h) (Or.inl ⟨by rfl, ?_⟩) (by assumption) ?_
  rotate_left
  ·(intro Y hSw; (try dsimp only at hSw); obtain ⟨hS0, hS1⟩ := hSw; go_simp; try with_reducible rfl)
  try simp only [Act.put, pu1, pu2, pu3, pu4, pu5, pu6]
  refine wpAnyH_ready (rs := [9]) (by kernel_rfl) (by simp) ?_
  refine AllReadyH.cons rfl (fun K hK => ?_) AllReadyH.nil
  go_simp
  refine (h.peek (bkO t * 256 + at_) 16 (by omega) (by omega) (.inl (by decide))).mono ?_; rintro e Z ⟨v, rfl, ho, j⟩
  rw [hPk.1]
  rw [hPk.2.1] at ho
  obtain ⟨pg, pc, rfl, hv, hpc, hpm⟩ := peek_rowG hPk.2.2.1 ho
  clear ho
  replace h := h.step j; replace hB := hB.below j hB.lt; replace hP := hP.below j hP.lt; replace hR := hR.below j hR.lt; replace hLa := hLa.below j (Nat.le_refl _); replace hAns := hAns.step j
  replace hG := hG.below j hG.lt; (try replace hI := hI.below j hI.lt); (try replace hW := hW.below j hW.lt); (try replace hO := hO.below j hO.lt); (try replace hL3 := hL3.below j (Nat.le_refl _)); (try replace hL1 := hL1.below j (Nat.le_refl _)); (try replace hAp := hAp.below j (Nat.le_refl _))
  replace kY := kY.trans (j.mono kY.size); clear j
  go_wp2_with fail
  refine hK.out _ _ (BkS.of hB) (fun hHeld => ?_)
  clear hK K
  try simp only [Act.put, pu1, pu2, pu3, pu4, pu5, pu6]
  refine wpAnyH_take (i := 10) (v := ?_) rfl (by kernel_rfl) (by kernel_rfl) (by kernel_rfl) (fun _ _ _ h => h) (Or.inl ⟨by rfl, ?_⟩) (by assumption) ?_
  rotate_left
  ·(intro Y hSw; (try dsimp only at hSw); obtain ⟨hS0, hS1⟩ := hSw; go_simp; try with_reducible rfl)
  try simp only [Act.put, pu1, pu2, pu3, pu4, pu5, pu6]
  refine wpAnyH_take (i := 11) (v := ?_) rfl (by kernel_rfl) (by kernel_rfl) (by kernel_rfl) (fun _ _ _ h => h) (Or.inl ⟨by rfl, ?_⟩) (by assumption) ?_
  rotate_left
  ·(intro Y hSw; (try dsimp only at hSw); obtain ⟨hS0, hS1⟩ := hSw; go_simp; try with_reducible rfl)
  try simp only [Act.put, pu1, pu2, pu3, pu4, pu5, pu6]
  refine wpAnyH_take (i := 12) (v := ?_) rfl (by kernel_rfl) (by kernel_rfl) (by kernel_rfl) (fun _ _ _ h => h) (Or.inl ⟨by rfl, ?_⟩) (by assumption) ?_
  rotate_left
  ·(intro Y hSw; (try dsimp only at hSw); obtain ⟨hS0, hS1⟩ := hSw; go_simp; try with_reducible rfl)
  try simp only [Act.put, pu1, pu2, pu3, pu4, pu5, pu6]
  refine wpAnyH_take (i := 13) (v := ?_) rfl (by kernel_rfl) (by kernel_rfl) (by kernel_rfl) (fun _ _ _ h => h) (Or.inl ⟨by rfl, ?_⟩) (by assumption) ?_
  rotate_left
  ·(intro Y hSw; (try dsimp only at hSw); obtain ⟨hS0, hS1⟩ := hSw; go_simp; try with_reducible rfl)
  try simp only [Act.put, pu1, pu2, pu3, pu4, pu5, pu6]
  refine wpAnyH_take (i := 14) (v := ?_) rfl (by kernel_rfl) (by kernel_rfl) (by kernel_rfl) (fun _ _ _ h => h) (Or.inl ⟨by rfl, ?_⟩) (by assumption) ?_
  rotate_left
  ·(intro Y hSw; (try dsimp only at hSw); obtain ⟨hS0, hS1⟩ := hSw; go_simp; try with_reducible rfl)
  try simp only [Act.put, pu1, pu2, pu3, pu4, pu5, pu6]
  refine wpAnyH_done (by kernel_rfl) ?_ _
  rw [onlyN_normal]
  have s0 := hP.cell 0 (v := .slice (some ⟨g, 0, none⟩) 6 6) rfl
  have s1 := hP.cell 1 (v := .func (.func 122) #[] #[]) rfl
  go_wp2_with fail
  refine (recordG_ok L hPk.2.2.1 hPk.2.2.2 hpc hpm hG hv (Nat.le_refl _)).mono ?_; rintro e Z9 ⟨rfl, j⟩
  clear s0 s1 hv
  replace h := h.step j; replace hB := hB.below j hB.lt; replace hP := hP.below j hP.lt; replace hR := hR.below j hR.lt; replace hLa := hLa.below j (Nat.le_refl _); replace hAns := hAns.step j
  replace hG := hG.below j hG.lt; (try replace hI := hI.below j hI.lt); (try replace hW := hW.below j hW.lt); (try replace hO := hO.below j hO.lt); (try replace hL3 := hL3.below j (Nat.le_refl _)); (try replace hL1 := hL1.below j (Nat.le_refl _)); (try replace hAp := hAp.below j (Nat.le_refl _))
  replace kY := kY.trans (j.mono kY.size); clear j
  have c0 := hR.cell 0 (v := .int .i64 0) rfl
  have c1 := hR.cell 1 (v := .int .i64 0) rfl
  have c2 := hR.cell 2 (v := .int .i64 0) rfl
  have c3 := hR.cell 3 (v := .int .i64 0) rfl
  have g0 := hR.frozen 0
  have g1 := hR.frozen 1
  have g2 := hR.frozen 2
  have g3 := hR.frozen 3
  have zl := hR.lt
  cases hok : grtOk L
  ·have HOK := Lib.hid hok
   clear hok
   simp only [Bool.false_eq_true, if_false]
   go_wp2_with fail
   refine ret_g2 Tryz.results54 b10 (by rfl) ((hR.set4G (.int .i64 0) (.int .i64 0) (.int .i64 0) (.int .i64 0)).set4G (.int .i64 0) (.int .i64 0) (.int .i64 0) (.int .i64 0)) rfl rfl ⟨?_, (((((((kY.setCell hb10 _).setCell hb10 _).setCell hb10 _).setCell hb10 _).setCell hb10 _).setCell hb10 _).setCell hb10 _).setCell hb10 _⟩
   have h9 : grtOk L = false := HOK.out
   unfold grtV grtN
   rw [h9]
   rfl
  ·have HOK := Lib.hid hok
   clear hok
   simp only [if_true]
   go_wp2_with fail
   refine ret_g2 Tryz.results54 b10 (by rfl) ((hR.set4G (.int .i64 (grtJ L 6).1) (.int .i64 (grtJ L 6).2.1) (.int .i64 (grtJ L 6).2.2.1) (.int .i64 (grtJ L 6).2.2.2)).set4G (.int .i64 (grtJ L 6).1) (.int .i64 (grtJ L 6).2.1) (.int .i64 (grtJ L 6).2.2.1) (.int .i64 (grtJ L 6).2.2.2)) rfl rfl ⟨?_, (((((((kY.setCell hb10 _).setCell hb10 _).setCell hb10 _).setCell hb10 _).setCell hb10 _).setCell hb10 _).setCell hb10 _).setCell hb10 _⟩
   have h9 : grtOk L = true := HOK.out
   unfold grtV grtN
   rw [h9]
   rfl
 ·go_simp
  refine (mopened_calls _ t _).mono ?_; rintro e Z ⟨po, rfl, hO, j⟩
  replace h := h.step j; replace hB := hB.below j hB.lt; replace hP := hP.below j hP.lt; replace hR := hR.below j hR.lt; replace hLa := hLa.below j (Nat.le_refl _); replace hAns := hAns.step j
  replace hG := hG.below j hG.lt; (try replace hI := hI.below j hI.lt); (try replace hW := hW.below j hW.lt); (try replace hO := hO.below j hO.lt); (try replace hL3 := hL3.below j (Nat.le_refl _)); (try replace hL1 := hL1.below j (Nat.le_refl _)); (try replace hAp := hAp.below j (Nat.le_refl _))
  replace kY := kY.trans (j.mono kY.size); clear j
  go_wp2_with fail
  refine hK.out _ _ (BkS.of hB) (fun hHeld => ?_)
  clear hK K
  try simp only [Act.put, pu1, pu2, pu3, pu4, pu5, pu6]
  obtain ⟨Y, rfl⟩ : ∃ Y : World, Y = Z := ⟨_, rfl⟩
  refine wpAnyH_ready (rs := [4, 8]) (by kernel_rfl) (by simp) ?_
  refine AllReadyH.cons rfl (fun K hK => ?_) (AllReadyH.cons rfl (fun K hK => ?_) AllReadyH.nil)
  ·go_simp
   obtain ⟨g3, hg3⟩ : ∃ g, Y.heap.size = g := ⟨_, rfl⟩
   obtain ⟨Z, hZ⟩ : ∃ Z, Y.alloc (.cells (askListP (getAsks pi pw t)).toArray 70) = Z := ⟨_, rfl⟩
   have j : Below Y.heap.size Y Z := by rw [← hZ]; exact (Below.refl _ Y).alloc (Nat.le_refl _) _
   have hL3' : CellsAt Z g3 (askListP (getAsks pi pw t)) := by rw [← hZ, ← hg3]; exact CellsAt.of (Blk.new Y _ _)
   rw [show Y.alloc (.cells #[.func (.func 85) #[] #[.pointer (some ⟨pi, 0, none⟩)], .int .i64 1, .func (.func 62) #[] #[.pointer (some ⟨pw, 0, none⟩)], .int .i64 2] 70) = Z from hZ, hg3]
   clear hZ hg3
   replace h := h.step j; replace hB := hB.below j hB.lt; replace hP := hP.below j hP.lt; replace hR := hR.below j hR.lt; replace hLa := hLa.below j (Nat.le_refl _); replace hAns := hAns.step j
   replace hG := hG.below j hG.lt; (try replace hI := hI.below j hI.lt); (try replace hW := hW.below j hW.lt); (try replace hO := hO.below j hO.lt); (try replace hL3 := hL3.below j (Nat.le_refl _)); (try replace hL1 := hL1.below j (Nat.le_refl _)); (try replace hAp := hAp.below j (Nat.le_refl _))
   replace kY := kY.trans (j.mono kY.size); clear j
   have hL3 := hL3'
   clear hL3'
   refine hK.out _ _ (BkS.of hB) (fun hHeld => ?_)
   clear hK K
   try simp only [Act.put, pu1, pu2, pu3, pu4, pu5, pu6]
   obtain ⟨Y, rfl⟩ : ∃ Y : World, Y = Z := ⟨_, rfl⟩
   refine wpAnyH_ready (rs := [8]) (by kernel_rfl) (by simp) ?_
   refine AllReadyH.cons rfl (fun K hK => ?_) AllReadyH.nil
   go_simp
   obtain ⟨g1, hg1⟩ : ∃ g, Y.heap.size = g := ⟨_, rfl⟩
   obtain ⟨Z, hZ⟩ : ∃ Z, Y.alloc (.cells (askListP (opAsk po s t)).toArray 70) = Z := ⟨_, rfl⟩
   have j : Below Y.heap.size Y Z := by rw [← hZ]; exact (Below.refl _ Y).alloc (Nat.le_refl _) _
   have hL1' : CellsAt Z g1 (askListP (opAsk po s t)) := by rw [← hZ, ← hg1]; exact CellsAt.of (Blk.new Y _ _)
   rw [show Y.alloc (.cells #[.func (.func 175) #[] #[.pointer (some ⟨po, 0, none⟩)], .int .i64 5] 70) = Z from hZ, hg1]
   clear hZ hg1
   replace h := h.step j; replace hB := hB.below j hB.lt; replace hP := hP.below j hP.lt; replace hR := hR.below j hR.lt; replace hLa := hLa.below j (Nat.le_refl _); replace hAns := hAns.step j
   replace hG := hG.below j hG.lt; (try replace hI := hI.below j hI.lt); (try replace hW := hW.below j hW.lt); (try replace hO := hO.below j hO.lt); (try replace hL3 := hL3.below j (Nat.le_refl _)); (try replace hL1 := hL1.below j (Nat.le_refl _)); (try replace hAp := hAp.below j (Nat.le_refl _))
   replace kY := kY.trans (j.mono kY.size); clear j
   have hL1 := hL1'
   clear hL1'
   refine hK.out _ _ (BkS.of hB) (fun hHeld => ?_)
   clear hK K
   try simp only [Act.put, pu1, pu2, pu3, pu4, pu5, pu6]
   obtain ⟨Y, rfl⟩ : ∃ Y : World, Y = Z := ⟨_, rfl⟩
   refine wpAnyH_ready (rs := [9]) (by kernel_rfl) (by simp) ?_
   refine AllReadyH.cons rfl (fun K hK => ?_) AllReadyH.nil
   rw [if_pos (by rfl)]
   refine wp_append_full _ _ 116 rfl Tryz.underlying116 infoAsk lb la.length (askListP la) rfl (askListP_len la) hLa g1 1 1 (askListP (opAsk po s t)) rfl rfl hL1 (by omega) (by unfold maxLen; omega) (by omega) ?_
   intro ga ca Z hga j hAp'
   clear hga
   replace h := h.step j; replace hB := hB.below j hB.lt; replace hP := hP.below j hP.lt; replace hR := hR.below j hR.lt; replace hLa := hLa.below j (Nat.le_refl _); replace hAns := hAns.step j
   replace hG := hG.below j hG.lt; (try replace hI := hI.below j hI.lt); (try replace hW := hW.below j hW.lt); (try replace hO := hO.below j hO.lt); (try replace hL3 := hL3.below j (Nat.le_refl _)); (try replace hL1 := hL1.below j (Nat.le_refl _)); (try replace hAp := hAp.below j (Nat.le_refl _))
   replace kY := kY.trans (j.mono kY.size); clear j
   have hAp := hAp'
   clear hAp'
   refine hK.out _ _ (BkS.of hB) (fun hHeld => ?_)
   clear hK K
   try simp only [Act.put, pu1, pu2, pu3, pu4, pu5, pu6]
   obtain ⟨Y, rfl⟩ : ∃ Y : World, Y = Z := ⟨_, rfl⟩
   refine wpAnyH_ready (rs := [10]) (by kernel_rfl) (by simp) ?_
   refine AllReadyH.cons rfl (fun K hK => ?_) AllReadyH.nil
   rw [if_pos (by rfl)]
   refine wp_append_full _ _ 116 rfl Tryz.underlying116 infoAsk g3 2 (askListP (getAsks pi pw t)) rfl rfl hL3 ga (la.length + 1) ca (askListP la ++ askListP (opAsk po s t)) rfl (by rw [List.length_append, askListP_len, askListP_len]; simp [opAsk]; omega) hAp (by omega) (by unfold maxLen; omega) (by omega) ?_
   intro gz cz Z hgz j hAz'
   clear hgz
   replace h := h.step j; replace hB := hB.below j hB.lt; replace hP := hP.below j hP.lt; replace hR := hR.below j hR.lt; replace hLa := hLa.below j (Nat.le_refl _); replace hAns := hAns.step j
   replace hG := hG.below j hG.lt; (try replace hI := hI.below j hI.lt); (try replace hW := hW.below j hW.lt); (try replace hO := hO.below j hO.lt); (try replace hL3 := hL3.below j (Nat.le_refl _)); (try replace hL1 := hL1.below j (Nat.le_refl _)); (try replace hAp := hAp.below j (Nat.le_refl _))
   replace kY := kY.trans (j.mono kY.size); clear j
   have hAz := hAz'
   clear hAz'
   rw [← askListP_append, ← askListP_append] at hAz
   have hrow := Lib.hid (askRow_cells hAz)
   have hans := Lib.hid ((getAsk_ans h hI hW).append (hAns.append (opAsk_ans h hO)))
   clear hAz hAp hL1 hL3
   refine hK.out _ _ (BkS.of hB) (fun hHeld => ?_)
   clear hK K
   try simp only [Act.put, pu1, pu2, pu3, pu4, pu5, pu6]
   obtain ⟨Y, rfl⟩ : ∃ Y : World, Y = Z := ⟨_, rfl⟩
   refine wpAnyH_ready (rs := [11]) (by kernel_rfl) (by simp) ?_
   refine AllReadyH.cons rfl (fun K hK => ?_) AllReadyH.nil
   go_simp
   refine (asked_okM Y gz (2 + (la.length + 1)) cz _ (by simp [getAsks, opAsk]; omega) (by simp [getAsks, opAsk]; omega) hrow hans).mono ?_; rintro e Z ⟨rfl, j⟩
   rw [getE_eq]
   clear hrow hans
   replace h := h.step j; replace hB := hB.below j hB.lt; replace hP := hP.below j hP.lt; replace hR := hR.below j hR.lt; replace hLa := hLa.below j (Nat.le_refl _); replace hAns := hAns.step j
   replace hG := hG.below j hG.lt; (try replace hI := hI.below j hI.lt); (try replace hW := hW.below j hW.lt); (try replace hO := hO.below j hO.lt); (try replace hL3 := hL3.below j (Nat.le_refl _)); (try replace hL1 := hL1.below j (Nat.le_refl _)); (try replace hAp := hAp.below j (Nat.le_refl _))
   replace kY := kY.trans (j.mono kY.size); clear j
   go_wp2_with fail
   refine hK.out _ _ (BkS.of hB) (fun hHeld => ?_)
   clear hK K
   try simp only [Act.put, pu1, pu2, pu3, pu4, pu5, pu6]
   refine wpAnyH_take (i := 12) (v := ?_) rfl (by kernel_rfl) (by kernel_rfl) (by kernel_rfl) (fun _ _ _ h => h) (Or.inl ⟨by rfl, ?_⟩) (by assumption) ?_
   rotate_left
   ·(intro Y hSw; (try dsimp only at hSw); obtain ⟨hS0, hS1⟩ := hSw; go_simp; try with_reducible rfl)
   try simp only [Act.put, pu1, pu2, pu3, pu4, pu5, pu6]
   refine wpAnyH_done (by kernel_rfl) ?_ _
   rw [onlyN_normal]
   clear hI hW hO
   go_wp2_with fail
   refine wp_onlyN ?_
   refine wp_region_held_drew (S := BkS b5 (.pointer (some ⟨k.b, 0, none⟩)) t) (by kernel_rfl) (BkS.of hB) (fun hHeld2 => ?_)
   obtain ⟨Z2, hZ2⟩ : ∃ Z2, Z.drew = Z2 := ⟨_, rfl⟩
   have j : Below Z.heap.size Z Z2 := by rw [← hZ2]; exact (Below.refl _ Z).drew
   rw [hZ2] at hHeld2 ⊢
   clear hZ2
   replace h := h.step j; replace hB := hB.below j hB.lt; replace hP := hP.below j hP.lt; replace hR := hR.below j hR.lt; replace hLa := hLa.below j (Nat.le_refl _); replace hAns := hAns.step j
   replace hG := hG.below j hG.lt; (try replace hI := hI.below j hI.lt); (try replace hW := hW.below j hW.lt); (try replace hO := hO.below j hO.lt); (try replace hL3 := hL3.below j (Nat.le_refl _)); (try replace hL1 := hL1.below j (Nat.le_refl _)); (try replace hAp := hAp.below j (Nat.le_refl _))
   replace kY := kY.trans (j.mono kY.size); clear j
   obtain ⟨Y, rfl⟩ : ∃ Y : World, Y = Z2 := ⟨_, rfl⟩
   refine wpAnyH_take (i := 0) (v := ?_) rfl (by kernel_rfl) (by kernel_rfl) (by kernel_rfl) (fun _ _ _ h => h) (Or.inl ⟨by rfl, ?_⟩) (by assumption) ?_
   rotate_left
   ·(intro Y hSw; (try dsimp only at hSw); obtain ⟨hS0, hS1⟩ := hSw; go_simp; try with_reducible rfl)
   try simp only [Act.put, pu1, pu2, pu3, pu4, pu5, pu6]
   refine wpAnyH_take (i := 1) (v := ?_) rfl (by kernel_rfl) (by kernel_rfl) (by kernel_rfl) (fun _ _ _ h => h) (Or.inl ⟨by rfl, ?_⟩) (by assumption) ?_
   rotate_left
   ·(intro Y hSw; (try dsimp only at hSw); obtain ⟨hS0, hS1⟩ := hSw; go_simp; try with_reducible rfl)
   try simp only [Act.put, pu1, pu2, pu3, pu4, pu5, pu6]
   refine wpAnyH_take (i := 2) (v := ?_) rfl (by kernel_rfl) (by kernel_rfl) (by kernel_rfl) (fun _ _ _ h => h) (Or.inl ⟨by rfl, ?_⟩) (by assumption) ?_
   rotate_left
   ·(intro Y hSw; (try dsimp only at hSw); obtain ⟨hS0, hS1⟩ := hSw; go_simp; try with_reducible rfl)
   try simp only [Act.put, pu1, pu2, pu3, pu4, pu5, pu6]
   refine wpAnyH_take (i := 5) (v := ?_) rfl (by kernel_rfl) (by kernel_rfl) (by kernel_rfl) (fun _ _ _ h => h) (Or.inl ⟨by rfl, ?_⟩) (by assumption) ?_
   rotate_left
   ·(intro Y hSw; (try dsimp only at hSw); obtain ⟨hS0, hS1⟩ := hSw; go_simp; try with_reducible rfl)
   try simp only [Act.put, pu1, pu2, pu3, pu4, pu5, pu6]
   refine wpAnyH_take (i := 8) (v := ?_) rfl (by kernel_rfl) (by kernel_rfl) (by kernel_rfl) (fun _ _ _ h => h) (Or.inl ⟨by rfl, ?_⟩) (by assumption) ?_
   rotate_left
   ·(intro Y hSw; (try dsimp only at hSw); obtain ⟨hS0, hS1⟩ := hSw; go_simp; try with_reducible rfl)
   try simp only [Act.put, pu1, pu2, pu3, pu4, pu5, pu6]
   refine wpAnyH_ready (rs := [3]) (by kernel_rfl) (by simp) ?_
   refine AllReadyH.cons rfl (fun K hK => ?_) AllReadyH.nil
   go_simp
   refine (mbase_calls _ t _).mono ?_; rintro e Z ⟨rfl, j⟩
   replace h := h.step j; replace hB := hB.below j hB.lt; replace hP := hP.below j hP.lt; replace hR := hR.below j hR.lt; replace hLa := hLa.below j (Nat.le_refl _); replace hAns := hAns.step j
   replace hG := hG.below j hG.lt; (try replace hI := hI.below j hI.lt); (try replace hW := hW.below j hW.lt); (try replace hO := hO.below j hO.lt); (try replace hL3 := hL3.below j (Nat.le_refl _)); (try replace hL1 := hL1.below j (Nat.le_refl _)); (try replace hAp := hAp.below j (Nat.le_refl _))
   replace kY := kY.trans (j.mono kY.size); clear j
   go_wp2_with fail
   refine hK.out _ _ (BkS.of hB) (fun hHeld => ?_)
   clear hK K
   try simp only [Act.put, pu1, pu2, pu3, pu4, pu5, pu6]
   obtain ⟨Y, rfl⟩ : ∃ Y : World, Y = Z := ⟨_, rfl⟩
   refine wpAnyH_take (i := 4) (v := ?_) rfl (by kernel_rfl) (by kernel_rfl) (by kernel_rfl) (fun _ _ _ h => h) (Or.inl ⟨by rfl, ?_⟩) (by assumption) ?_
   rotate_left
   ·(intro Y hSw; (try dsimp only at hSw); obtain ⟨hS0, hS1⟩ := hSw; go_simp; try with_reducible rfl)
   try simp only [Act.put, pu1, pu2, pu3, pu4, pu5, pu6]
   refine wpAnyH_take (i := 6) (v := ?_) rfl (by kernel_rfl) (by kernel_rfl) (by kernel_rfl) (fun _ _ _ h => h) (Or.inl ⟨by rfl, ?_⟩) (by assumption) ?_
   rotate_left
   ·(intro Y hSw; (try dsimp only at hSw); obtain ⟨hS0, hS1⟩ := hSw; go_simp; try with_reducible rfl)
   try simp only [Act.put, pu1, pu2, pu3, pu4, pu5, pu6]
   refine wpAnyH_take (i := 7) (v := ?_) rfl (by kernel_rfl) (by kernel_rfl) (by kernel_rfl) (fun _ _ _ h => h) (Or.inl ⟨by rfl, ?_⟩) (by assumption) ?_
   rotate_left
   ·(intro Y hSw; (try dsimp only at hSw); obtain ⟨hS0, hS1⟩ := hSw; go_simp; try with_reducible rfl)
   try simp only [Act.put, pu1, pu2, pu3, pu4, pu5, pu6]
   refine wpAnyH_ready (rs := [9]) (by kernel_rfl) (by simp) ?_
   refine AllReadyH.cons rfl (fun K hK => ?_) AllReadyH.nil
   go_simp
   refine (h.peek (bkO t * 256 + at_) 16 (by omega) (by omega) (.inl (by decide))).mono ?_; rintro e Z ⟨v, rfl, ho, j⟩
   rw [hPk.1]
   rw [hPk.2.1] at ho
   obtain ⟨pg, pc, rfl, hv, hpc, hpm⟩ := peek_rowG hPk.2.2.1 ho
   clear ho
   replace h := h.step j; replace hB := hB.below j hB.lt; replace hP := hP.below j hP.lt; replace hR := hR.below j hR.lt; replace hLa := hLa.below j (Nat.le_refl _); replace hAns := hAns.step j
   replace hG := hG.below j hG.lt; (try replace hI := hI.below j hI.lt); (try replace hW := hW.below j hW.lt); (try replace hO := hO.below j hO.lt); (try replace hL3 := hL3.below j (Nat.le_refl _)); (try replace hL1 := hL1.below j (Nat.le_refl _)); (try replace hAp := hAp.below j (Nat.le_refl _))
   replace kY := kY.trans (j.mono kY.size); clear j
   go_wp2_with fail
   refine hK.out _ _ (BkS.of hB) (fun hHeld => ?_)
   clear hK K
   try simp only [Act.put, pu1, pu2, pu3, pu4, pu5, pu6]
   refine wpAnyH_take (i := 10) (v := ?_) rfl (by kernel_rfl) (by kernel_rfl) (by kernel_rfl) (fun _ _ _ h => h) (Or.inl ⟨by rfl, ?_⟩) (by assumption) ?_
   rotate_left
   ·(intro Y hSw; (try dsimp only at hSw); obtain ⟨hS0, hS1⟩ := hSw; go_simp; try with_reducible rfl)
   try simp only [Act.put, pu1, pu2, pu3, pu4, pu5, pu6]
   refine wpAnyH_take (i := 11) (v := ?_) rfl (by kernel_rfl) (by kernel_rfl) (by kernel_rfl) (fun _ _ _ h => h) (Or.inl ⟨by rfl, ?_⟩) (by assumption) ?_
   rotate_left
   ·(intro Y hSw; (try dsimp only at hSw); obtain ⟨hS0, hS1⟩ := hSw; go_simp; try with_reducible rfl)
   try simp only [Act.put, pu1, pu2, pu3, pu4, pu5, pu6]
   refine wpAnyH_take (i := 12) (v := ?_) rfl (by kernel_rfl) (by kernel_rfl) (by kernel_rfl) (fun _ _ _ h => h) (Or.inl ⟨by rfl, ?_⟩) (by assumption) ?_
   rotate_left
   ·(intro Y hSw; (try dsimp only at hSw); obtain ⟨hS0, hS1⟩ := hSw; go_simp; try with_reducible rfl)
   try simp only [Act.put, pu1, pu2, pu3, pu4, pu5, pu6]
   refine wpAnyH_take (i := 13) (v := ?_) rfl (by kernel_rfl) (by kernel_rfl) (by kernel_rfl) (fun _ _ _ h => h) (Or.inl ⟨by rfl, ?_⟩) (by assumption) ?_
   rotate_left
   ·(intro Y hSw; (try dsimp only at hSw); obtain ⟨hS0, hS1⟩ := hSw; go_simp; try with_reducible rfl)
   try simp only [Act.put, pu1, pu2, pu3, pu4, pu5, pu6]
   refine wpAnyH_take (i := 14) (v := ?_) rfl (by kernel_rfl) (by kernel_rfl) (by kernel_rfl) (fun _ _ _ h => h) (Or.inl ⟨by rfl, ?_⟩) (by assumption) ?_
   rotate_left
   ·(intro Y hSw; (try dsimp only at hSw); obtain ⟨hS0, hS1⟩ := hSw; go_simp; try with_reducible rfl)
   try simp only [Act.put, pu1, pu2, pu3, pu4, pu5, pu6]
   refine wpAnyH_done (by kernel_rfl) ?_ _
   rw [onlyN_normal]
   have s0 := hP.cell 0 (v := .slice (some ⟨g, 0, none⟩) 6 6) rfl
   have s1 := hP.cell 1 (v := .func (.func 122) #[] #[]) rfl
   go_wp2_with fail
   refine (recordG_ok L hPk.2.2.1 hPk.2.2.2 hpc hpm hG hv (Nat.le_refl _)).mono ?_; rintro e Z9 ⟨rfl, j⟩
   clear s0 s1 hv
   replace h := h.step j; replace hB := hB.below j hB.lt; replace hP := hP.below j hP.lt; replace hR := hR.below j hR.lt; replace hLa := hLa.below j (Nat.le_refl _); replace hAns := hAns.step j
   replace hG := hG.below j hG.lt; (try replace hI := hI.below j hI.lt); (try replace hW := hW.below j hW.lt); (try replace hO := hO.below j hO.lt); (try replace hL3 := hL3.below j (Nat.le_refl _)); (try replace hL1 := hL1.below j (Nat.le_refl _)); (try replace hAp := hAp.below j (Nat.le_refl _))
   replace kY := kY.trans (j.mono kY.size); clear j
   have c0 := hR.cell 0 (v := .int .i64 0) rfl
   have c1 := hR.cell 1 (v := .int .i64 0) rfl
   have c2 := hR.cell 2 (v := .int .i64 0) rfl
   have c3 := hR.cell 3 (v := .int .i64 0) rfl
   have g0 := hR.frozen 0
   have g1 := hR.frozen 1
   have g2 := hR.frozen 2
   have g3 := hR.frozen 3
   have zl := hR.lt
   cases hok : grtOk L
   ·have HOK := Lib.hid hok
    clear hok
    simp only [Bool.false_eq_true, if_false]
    go_wp2_with fail
    refine ret_g2 Tryz.results54 b10 (by rfl) ((hR.set4G (.int .i64 0) (.int .i64 0) (.int .i64 0) (.int .i64 0)).set4G (.int .i64 0) (.int .i64 0) (.int .i64 0) (.int .i64 0)) rfl rfl ⟨?_, (((((((kY.setCell hb10 _).setCell hb10 _).setCell hb10 _).setCell hb10 _).setCell hb10 _).setCell hb10 _).setCell hb10 _).setCell hb10 _⟩
    have h9 : grtOk L = false := HOK.out
    unfold grtV grtN
    rw [h9]
    rfl
   ·have HOK := Lib.hid hok
    clear hok
    simp only [if_true]
    go_wp2_with fail
    refine ret_g2 Tryz.results54 b10 (by rfl) ((hR.set4G (.int .i64 (grtJ L 6).1) (.int .i64 (grtJ L 6).2.1) (.int .i64 (grtJ L 6).2.2.1) (.int .i64 (grtJ L 6).2.2.2)).set4G (.int .i64 (grtJ L 6).1) (.int .i64 (grtJ L 6).2.1) (.int .i64 (grtJ L 6).2.2.1) (.int .i64 (grtJ L 6).2.2.2)) rfl rfl ⟨?_, (((((((kY.setCell hb10 _).setCell hb10 _).setCell hb10 _).setCell hb10 _).setCell hb10 _).setCell hb10 _).setCell hb10 _).setCell hb10 _⟩
    have h9 : grtOk L = true := HOK.out
    unfold grtV grtN
    rw [h9]
    rfl
  ·go_simp
   obtain ⟨g1, hg1⟩ : ∃ g, Y.heap.size = g := ⟨_, rfl⟩
   obtain ⟨Z, hZ⟩ : ∃ Z, Y.alloc (.cells (askListP (opAsk po s t)).toArray 70) = Z := ⟨_, rfl⟩
   have j : Below Y.heap.size Y Z := by rw [← hZ]; exact (Below.refl _ Y).alloc (Nat.le_refl _) _
   have hL1' : CellsAt Z g1 (askListP (opAsk po s t)) := by rw [← hZ, ← hg1]; exact CellsAt.of (Blk.new Y _ _)
   rw [show Y.alloc (.cells #[.func (.func 175) #[] #[.pointer (some ⟨po, 0, none⟩)], .int .i64 5] 70) = Z from hZ, hg1]
   clear hZ hg1
   replace h := h.step j; replace hB := hB.below j hB.lt; replace hP := hP.below j hP.lt; replace hR := hR.below j hR.lt; replace hLa := hLa.below j (Nat.le_refl _); replace hAns := hAns.step j
   replace hG := hG.below j hG.lt; (try replace hI := hI.below j hI.lt); (try replace hW := hW.below j hW.lt); (try replace hO := hO.below j hO.lt); (try replace hL3 := hL3.below j (Nat.le_refl _)); (try replace hL1 := hL1.below j (Nat.le_refl _)); (try replace hAp := hAp.below j (Nat.le_refl _))
   replace kY := kY.trans (j.mono kY.size); clear j
   have hL1 := hL1'
   clear hL1'
   refine hK.out _ _ (BkS.of hB) (fun hHeld => ?_)
   clear hK K
   try simp only [Act.put, pu1, pu2, pu3, pu4, pu5, pu6]
   obtain ⟨Y, rfl⟩ : ∃ Y : World, Y = Z := ⟨_, rfl⟩
   refine wpAnyH_ready (rs := [4, 9]) (by kernel_rfl) (by simp) ?_
   refine AllReadyH.cons rfl (fun K hK => ?_) (AllReadyH.cons rfl (fun K hK => ?_) AllReadyH.nil)
   ·go_simp
    obtain ⟨g3, hg3⟩ : ∃ g, Y.heap.size = g := ⟨_, rfl⟩
    obtain ⟨Z, hZ⟩ : ∃ Z, Y.alloc (.cells (askListP (getAsks pi pw t)).toArray 70) = Z := ⟨_, rfl⟩
    have j : Below Y.heap.size Y Z := by rw [← hZ]; exact (Below.refl _ Y).alloc (Nat.le_refl _) _
    have hL3' : CellsAt Z g3 (askListP (getAsks pi pw t)) := by rw [← hZ, ← hg3]; exact CellsAt.of (Blk.new Y _ _)
    rw [show Y.alloc (.cells #[.func (.func 85) #[] #[.pointer (some ⟨pi, 0, none⟩)], .int .i64 1, .func (.func 62) #[] #[.pointer (some ⟨pw, 0, none⟩)], .int .i64 2] 70) = Z from hZ, hg3]
    clear hZ hg3
    replace h := h.step j; replace hB := hB.below j hB.lt; replace hP := hP.below j hP.lt; replace hR := hR.below j hR.lt; replace hLa := hLa.below j (Nat.le_refl _); replace hAns := hAns.step j
    replace hG := hG.below j hG.lt; (try replace hI := hI.below j hI.lt); (try replace hW := hW.below j hW.lt); (try replace hO := hO.below j hO.lt); (try replace hL3 := hL3.below j (Nat.le_refl _)); (try replace hL1 := hL1.below j (Nat.le_refl _)); (try replace hAp := hAp.below j (Nat.le_refl _))
    replace kY := kY.trans (j.mono kY.size); clear j
    have hL3 := hL3'
    clear hL3'
    refine hK.out _ _ (BkS.of hB) (fun hHeld => ?_)
    clear hK K
    try simp only [Act.put, pu1, pu2, pu3, pu4, pu5, pu6]
    obtain ⟨Y, rfl⟩ : ∃ Y : World, Y = Z := ⟨_, rfl⟩
    refine wpAnyH_ready (rs := [9]) (by kernel_rfl) (by simp) ?_
    refine AllReadyH.cons rfl (fun K hK => ?_) AllReadyH.nil
    rw [if_pos (by rfl)]
    refine wp_append_full _ _ 116 rfl Tryz.underlying116 infoAsk lb la.length (askListP la) rfl (askListP_len la) hLa g1 1 1 (askListP (opAsk po s t)) rfl rfl hL1 (by omega) (by unfold maxLen; omega) (by omega) ?_
    intro ga ca Z hga j hAp'
    clear hga
    replace h := h.step j; replace hB := hB.below j hB.lt; replace hP := hP.below j hP.lt; replace hR := hR.below j hR.lt; replace hLa := hLa.below j (Nat.le_refl _); replace hAns := hAns.step j
    replace hG := hG.below j hG.lt; (try replace hI := hI.below j hI.lt); (try replace hW := hW.below j hW.lt); (try replace hO := hO.below j hO.lt); (try replace hL3 := hL3.below j (Nat.le_refl _)); (try replace hL1 := hL1.below j (Nat.le_refl _)); (try replace hAp := hAp.below j (Nat.le_refl _))
    replace kY := kY.trans (j.mono kY.size); clear j
    have hAp := hAp'
    clear hAp'
    refine hK.out _ _ (BkS.of hB) (fun hHeld => ?_)
    clear hK K
    try simp only [Act.put, pu1, pu2, pu3, pu4, pu5, pu6]
    obtain ⟨Y, rfl⟩ : ∃ Y : World, Y = Z := ⟨_, rfl⟩
    refine wpAnyH_ready (rs := [10]) (by kernel_rfl) (by simp) ?_
    refine AllReadyH.cons rfl (fun K hK => ?_) AllReadyH.nil
    rw [if_pos (by rfl)]
    refine wp_append_full _ _ 116 rfl Tryz.underlying116 infoAsk g3 2 (askListP (getAsks pi pw t)) rfl rfl hL3 ga (la.length + 1) ca (askListP la ++ askListP (opAsk po s t)) rfl (by rw [List.length_append, askListP_len, askListP_len]; simp [opAsk]; omega) hAp (by omega) (by unfold maxLen; omega) (by omega) ?_
    intro gz cz Z hgz j hAz'
    clear hgz
    replace h := h.step j; replace hB := hB.below j hB.lt; replace hP := hP.below j hP.lt; replace hR := hR.below j hR.lt; replace hLa := hLa.below j (Nat.le_refl _); replace hAns := hAns.step j
    replace hG := hG.below j hG.lt; (try replace hI := hI.below j hI.lt); (try replace hW := hW.below j hW.lt); (try replace hO := hO.below j hO.lt); (try replace hL3 := hL3.below j (Nat.le_refl _)); (try replace hL1 := hL1.below j (Nat.le_refl _)); (try replace hAp := hAp.below j (Nat.le_refl _))
    replace kY := kY.trans (j.mono kY.size); clear j
    have hAz := hAz'
    clear hAz'
    rw [← askListP_append, ← askListP_append] at hAz
    have hrow := Lib.hid (askRow_cells hAz)
    have hans := Lib.hid ((getAsk_ans h hI hW).append (hAns.append (opAsk_ans h hO)))
    clear hAz hAp hL1 hL3
    refine hK.out _ _ (BkS.of hB) (fun hHeld => ?_)
    clear hK K
    try simp only [Act.put, pu1, pu2, pu3, pu4, pu5, pu6]
    obtain ⟨Y, rfl⟩ : ∃ Y : World, Y = Z := ⟨_, rfl⟩
    refine wpAnyH_ready (rs := [11]) (by kernel_rfl) (by simp) ?_
    refine AllReadyH.cons rfl (fun K hK => ?_) AllReadyH.nil
    go_simp
    refine (asked_okM Y gz (2 + (la.length + 1)) cz _ (by simp [getAsks, opAsk]; omega) (by simp [getAsks, opAsk]; omega) hrow hans).mono ?_; rintro e Z ⟨rfl, j⟩
    rw [getE_eq]
    clear hrow hans
    replace h := h.step j; replace hB := hB.below j hB.lt; replace hP := hP.below j hP.lt; replace hR := hR.below j hR.lt; replace hLa := hLa.below j (Nat.le_refl _); replace hAns := hAns.step j
    replace hG := hG.below j hG.lt; (try replace hI := hI.below j hI.lt); (try replace hW := hW.below j hW.lt); (try replace hO := hO.below j hO.lt); (try replace hL3 := hL3.below j (Nat.le_refl _)); (try replace hL1 := hL1.below j (Nat.le_refl _)); (try replace hAp := hAp.below j (Nat.le_refl _))
    replace kY := kY.trans (j.mono kY.size); clear j
    go_wp2_with fail
    refine hK.out _ _ (BkS.of hB) (fun hHeld => ?_)
    clear hK K
    try simp only [Act.put, pu1, pu2, pu3, pu4, pu5, pu6]
    refine wpAnyH_take (i := 12) (v := ?_) rfl (by kernel_rfl) (by kernel_rfl) (by kernel_rfl) (fun _ _ _ h => h) (Or.inl ⟨by rfl, ?_⟩) (by assumption) ?_
    rotate_left
    ·(intro Y hSw; (try dsimp only at hSw); obtain ⟨hS0, hS1⟩ := hSw; go_simp; try with_reducible rfl)
    try simp only [Act.put, pu1, pu2, pu3, pu4, pu5, pu6]
    refine wpAnyH_done (by kernel_rfl) ?_ _
    rw [onlyN_normal]
    clear hI hW hO
    go_wp2_with fail
    refine wp_onlyN ?_
    refine wp_region_held_drew (S := BkS b5 (.pointer (some ⟨k.b, 0, none⟩)) t) (by kernel_rfl) (BkS.of hB) (fun hHeld2 => ?_)
    obtain ⟨Z2, hZ2⟩ : ∃ Z2, Z.drew = Z2 := ⟨_, rfl⟩
    have j : Below Z.heap.size Z Z2 := by rw [← hZ2]; exact (Below.refl _ Z).drew
    rw [hZ2] at hHeld2 ⊢
    clear hZ2
    replace h := h.step j; replace hB := hB.below j hB.lt; replace hP := hP.below j hP.lt; replace hR := hR.below j hR.lt; replace hLa := hLa.below j (Nat.le_refl _); replace hAns := hAns.step j
    replace hG := hG.below j hG.lt; (try replace hI := hI.below j hI.lt); (try replace hW := hW.below j hW.lt); (try replace hO := hO.below j hO.lt); (try replace hL3 := hL3.below j (Nat.le_refl _)); (try replace hL1 := hL1.below j (Nat.le_refl _)); (try replace hAp := hAp.below j (Nat.le_refl _))
    replace kY := kY.trans (j.mono kY.size); clear j
    obtain ⟨Y, rfl⟩ : ∃ Y : World, Y = Z2 := ⟨_, rfl⟩
    refine wpAnyH_take (i := 0) (v := ?_) rfl (by kernel_rfl) (by kernel_rfl) (by kernel_rfl) (fun _ _ _ h => h) (Or.inl ⟨by rfl, ?_⟩) (by assumption) ?_
    rotate_left
    ·(intro Y hSw; (try dsimp only at hSw); obtain ⟨hS0, hS1⟩ := hSw; go_simp; try with_reducible rfl)
    try simp only [Act.put, pu1, pu2, pu3, pu4, pu5, pu6]
    refine wpAnyH_take (i := 1) (v := ?_) rfl (by kernel_rfl) (by kernel_rfl) (by kernel_rfl) (fun _ _ _ h => h) (Or.inl ⟨by rfl, ?_⟩) (by assumption) ?_
    rotate_left
    ·(intro Y hSw; (try dsimp only at hSw); obtain ⟨hS0, hS1⟩ := hSw; go_simp; try with_reducible rfl)
    try simp only [Act.put, pu1, pu2, pu3, pu4, pu5, pu6]
    refine wpAnyH_take (i := 2) (v := ?_) rfl (by kernel_rfl) (by kernel_rfl) (by kernel_rfl) (fun _ _ _ h => h) (Or.inl ⟨by rfl, ?_⟩) (by assumption) ?_
    rotate_left
    ·(intro Y hSw; (try dsimp only at hSw); obtain ⟨hS0, hS1⟩ := hSw; go_simp; try with_reducible rfl)
    try simp only [Act.put, pu1, pu2, pu3, pu4, pu5, pu6]
    refine wpAnyH_take (i := 5) (v := ?_) rfl (by kernel_rfl) (by kernel_rfl) (by kernel_rfl) (fun _ _ _ h => h) (Or.inl ⟨by rfl, ?_⟩) (by assumption) ?_
    rotate_left
    ·(intro Y hSw; (try dsimp only at hSw); obtain ⟨hS0, hS1⟩ := hSw; go_simp; try with_reducible rfl)
    try simp only [Act.put, pu1, pu2, pu3, pu4, pu5, pu6]
    refine wpAnyH_take (i := 8) (v := ?_) rfl (by kernel_rfl) (by kernel_rfl) (by kernel_rfl) (fun _ _ _ h => h) (Or.inl ⟨by rfl, ?_⟩) (by assumption) ?_
    rotate_left
    ·(intro Y hSw; (try dsimp only at hSw); obtain ⟨hS0, hS1⟩ := hSw; go_simp; try with_reducible rfl)
    try simp only [Act.put, pu1, pu2, pu3, pu4, pu5, pu6]
    refine wpAnyH_ready (rs := [3]) (by kernel_rfl) (by simp) ?_
    refine AllReadyH.cons rfl (fun K hK => ?_) AllReadyH.nil
    go_simp
    refine (mbase_calls _ t _).mono ?_; rintro e Z ⟨rfl, j⟩
    replace h := h.step j; replace hB := hB.below j hB.lt; replace hP := hP.below j hP.lt; replace hR := hR.below j hR.lt; replace hLa := hLa.below j (Nat.le_refl _); replace hAns := hAns.step j
    replace hG := hG.below j hG.lt; (try replace hI := hI.below j hI.lt); (try replace hW := hW.below j hW.lt); (try replace hO := hO.below j hO.lt); (try replace hL3 := hL3.below j (Nat.le_refl _)); (try replace hL1 := hL1.below j (Nat.le_refl _)); (try replace hAp := hAp.below j (Nat.le_refl _))
    replace kY := kY.trans (j.mono kY.size); clear j
    go_wp2_with fail
    refine hK.out _ _ (BkS.of hB) (fun hHeld => ?_)
    clear hK K
    try simp only [Act.put, pu1, pu2, pu3, pu4, pu5, pu6]
    obtain ⟨Y, rfl⟩ : ∃ Y : World, Y = Z := ⟨_, rfl⟩
    refine wpAnyH_take (i := 4) (v := ?_) rfl (by kernel_rfl) (by kernel_rfl) (by kernel_rfl) (fun _ _ _ h => h) (Or.inl ⟨by rfl, ?_⟩) (by assumption) ?_
    rotate_left
    ·(intro Y hSw; (try dsimp only at hSw); obtain ⟨hS0, hS1⟩ := hSw; go_simp; try with_reducible rfl)
    try simp only [Act.put, pu1, pu2, pu3, pu4, pu5, pu6]
    refine wpAnyH_take (i := 6) (v := ?_) rfl (by kernel_rfl) (by kernel_rfl) (by kernel_rfl) (fun _ _ _ h => h) (Or.inl ⟨by rfl, ?_⟩) (by assumption) ?_
    rotate_left
    ·(intro Y hSw; (try dsimp only at hSw); obtain ⟨hS0, hS1⟩ := hSw; go_simp; try with_reducible rfl)
    try simp only [Act.put, pu1, pu2, pu3, pu4, pu5, pu6]
    refine wpAnyH_take (i := 7) (v := ?_) rfl (by kernel_rfl) (by kernel_rfl) (by kernel_rfl) (fun _ _ _ h => h) (Or.inl ⟨by rfl, ?_⟩) (by assumption) ?_
    rotate_left
    ·(intro Y hSw; (try dsimp only at hSw); obtain ⟨hS0, hS1⟩ := hSw; go_simp; try with_reducible rfl)
    try simp only [Act.put, pu1, pu2, pu3, pu4, pu5, pu6]
    refine wpAnyH_ready (rs := [9]) (by kernel_rfl) (by simp) ?_
    refine AllReadyH.cons rfl (fun K hK => ?_) AllReadyH.nil
    go_simp
    refine (h.peek (bkO t * 256 + at_) 16 (by omega) (by omega) (.inl (by decide))).mono ?_; rintro e Z ⟨v, rfl, ho, j⟩
    rw [hPk.1]
    rw [hPk.2.1] at ho
    obtain ⟨pg, pc, rfl, hv, hpc, hpm⟩ := peek_rowG hPk.2.2.1 ho
    clear ho
    replace h := h.step j; replace hB := hB.below j hB.lt; replace hP := hP.below j hP.lt; replace hR := hR.below j hR.lt; replace hLa := hLa.below j (Nat.le_refl _); replace hAns := hAns.step j
    replace hG := hG.below j hG.lt; (try replace hI := hI.below j hI.lt); (try replace hW := hW.below j hW.lt); (try replace hO := hO.below j hO.lt); (try replace hL3 := hL3.below j (Nat.le_refl _)); (try replace hL1 := hL1.below j (Nat.le_refl _)); (try replace hAp := hAp.below j (Nat.le_refl _))
    replace kY := kY.trans (j.mono kY.size); clear j
    go_wp2_with fail
    refine hK.out _ _ (BkS.of hB) (fun hHeld => ?_)
    clear hK K
    try simp only [Act.put, pu1, pu2, pu3, pu4, pu5, pu6]
    refine wpAnyH_take (i := 10) (v := ?_) rfl (by kernel_rfl) (by kernel_rfl) (by kernel_rfl) (fun _ _ _ h => h) (Or.inl ⟨by rfl, ?_⟩) (by assumption) ?_
    rotate_left
    ·(intro Y hSw; (try dsimp only at hSw); obtain ⟨hS0, hS1⟩ := hSw; go_simp; try with_reducible rfl)
    try simp only [Act.put, pu1, pu2, pu3, pu4, pu5, pu6]
    refine wpAnyH_take (i := 11) (v := ?_) rfl (by kernel_rfl) (by kernel_rfl) (by kernel_rfl) (fun _ _ _ h => h) (Or.inl ⟨by rfl, ?_⟩) (by assumption) ?_
    rotate_left
    ·(intro Y hSw; (try dsimp only at hSw); obtain ⟨hS0, hS1⟩ := hSw; go_simp; try with_reducible rfl)
    try simp only [Act.put, pu1, pu2, pu3, pu4, pu5, pu6]
    refine wpAnyH_take (i := 12) (v := ?_) rfl (by kernel_rfl) (by kernel_rfl) (by kernel_rfl) (fun _ _ _ h => h) (Or.inl ⟨by rfl, ?_⟩) (by assumption) ?_
    rotate_left
    ·(intro Y hSw; (try dsimp only at hSw); obtain ⟨hS0, hS1⟩ := hSw; go_simp; try with_reducible rfl)
    try simp only [Act.put, pu1, pu2, pu3, pu4, pu5, pu6]
    refine wpAnyH_take (i := 13) (v := ?_) rfl (by kernel_rfl) (by kernel_rfl) (by kernel_rfl) (fun _ _ _ h => h) (Or.inl ⟨by rfl, ?_⟩) (by assumption) ?_
    rotate_left
    ·(intro Y hSw; (try dsimp only at hSw); obtain ⟨hS0, hS1⟩ := hSw; go_simp; try with_reducible rfl)
    try simp only [Act.put, pu1, pu2, pu3, pu4, pu5, pu6]
    refine wpAnyH_take (i := 14) (v := ?_) rfl (by kernel_rfl) (by kernel_rfl) (by kernel_rfl) (fun _ _ _ h => h) (Or.inl ⟨by rfl, ?_⟩) (by assumption) ?_
    rotate_left
    ·(intro Y hSw; (try dsimp only at hSw); obtain ⟨hS0, hS1⟩ := hSw; go_simp; try with_reducible rfl)
    try simp only [Act.put, pu1, pu2, pu3, pu4, pu5, pu6]
    refine wpAnyH_done (by kernel_rfl) ?_ _
    rw [onlyN_normal]
    have s0 := hP.cell 0 (v := .slice (some ⟨g, 0, none⟩) 6 6) rfl
    have s1 := hP.cell 1 (v := .func (.func 122) #[] #[]) rfl
    go_wp2_with fail
    refine (recordG_ok L hPk.2.2.1 hPk.2.2.2 hpc hpm hG hv (Nat.le_refl _)).mono ?_; rintro e Z9 ⟨rfl, j⟩
    clear s0 s1 hv
    replace h := h.step j; replace hB := hB.below j hB.lt; replace hP := hP.below j hP.lt; replace hR := hR.below j hR.lt; replace hLa := hLa.below j (Nat.le_refl _); replace hAns := hAns.step j
    replace hG := hG.below j hG.lt; (try replace hI := hI.below j hI.lt); (try replace hW := hW.below j hW.lt); (try replace hO := hO.below j hO.lt); (try replace hL3 := hL3.below j (Nat.le_refl _)); (try replace hL1 := hL1.below j (Nat.le_refl _)); (try replace hAp := hAp.below j (Nat.le_refl _))
    replace kY := kY.trans (j.mono kY.size); clear j
    have c0 := hR.cell 0 (v := .int .i64 0) rfl
    have c1 := hR.cell 1 (v := .int .i64 0) rfl
    have c2 := hR.cell 2 (v := .int .i64 0) rfl
    have c3 := hR.cell 3 (v := .int .i64 0) rfl
    have g0 := hR.frozen 0
    have g1 := hR.frozen 1
    have g2 := hR.frozen 2
    have g3 := hR.frozen 3
    have zl := hR.lt
    cases hok : grtOk L
    ·have HOK := Lib.hid hok
     clear hok
     simp only [Bool.false_eq_true, if_false]
     go_wp2_with fail
     refine ret_g2 Tryz.results54 b10 (by rfl) ((hR.set4G (.int .i64 0) (.int .i64 0) (.int .i64 0) (.int .i64 0)).set4G (.int .i64 0) (.int .i64 0) (.int .i64 0) (.int .i64 0)) rfl rfl ⟨?_, (((((((kY.setCell hb10 _).setCell hb10 _).setCell hb10 _).setCell hb10 _).setCell hb10 _).setCell hb10 _).setCell hb10 _).setCell hb10 _⟩
     have h9 : grtOk L = false := HOK.out
     unfold grtV grtN
     rw [h9]
     rfl
    ·have HOK := Lib.hid hok
     clear hok
     simp only [if_true]
     go_wp2_with fail
     refine ret_g2 Tryz.results54 b10 (by rfl) ((hR.set4G (.int .i64 (grtJ L 6).1) (.int .i64 (grtJ L 6).2.1) (.int .i64 (grtJ L 6).2.2.1) (.int .i64 (grtJ L 6).2.2.2)).set4G (.int .i64 (grtJ L 6).1) (.int .i64 (grtJ L 6).2.1) (.int .i64 (grtJ L 6).2.2.1) (.int .i64 (grtJ L 6).2.2.2)) rfl rfl ⟨?_, (((((((kY.setCell hb10 _).setCell hb10 _).setCell hb10 _).setCell hb10 _).setCell hb10 _).setCell hb10 _).setCell hb10 _).setCell hb10 _⟩
     have h9 : grtOk L = true := HOK.out
     unfold grtV grtN
     rw [h9]
     rfl
   ·rw [if_pos (by rfl)]
    refine wp_append_full _ _ 116 rfl Tryz.underlying116 infoAsk lb la.length (askListP la) rfl (askListP_len la) hLa g1 1 1 (askListP (opAsk po s t)) rfl rfl hL1 (by omega) (by unfold maxLen; omega) (by omega) ?_
    intro ga ca Z hga j hAp'
    clear hga
    replace h := h.step j; replace hB := hB.below j hB.lt; replace hP := hP.below j hP.lt; replace hR := hR.below j hR.lt; replace hLa := hLa.below j (Nat.le_refl _); replace hAns := hAns.step j
    replace hG := hG.below j hG.lt; (try replace hI := hI.below j hI.lt); (try replace hW := hW.below j hW.lt); (try replace hO := hO.below j hO.lt); (try replace hL3 := hL3.below j (Nat.le_refl _)); (try replace hL1 := hL1.below j (Nat.le_refl _)); (try replace hAp := hAp.below j (Nat.le_refl _))
    replace kY := kY.trans (j.mono kY.size); clear j
    have hAp := hAp'
    clear hAp'
    refine hK.out _ _ (BkS.of hB) (fun hHeld => ?_)
    clear hK K
    try simp only [Act.put, pu1, pu2, pu3, pu4, pu5, pu6]
    obtain ⟨Y, rfl⟩ : ∃ Y : World, Y = Z := ⟨_, rfl⟩
    refine wpAnyH_ready (rs := [4]) (by kernel_rfl) (by simp) ?_
    refine AllReadyH.cons rfl (fun K hK => ?_) AllReadyH.nil
    go_simp
    obtain ⟨g3, hg3⟩ : ∃ g, Y.heap.size = g := ⟨_, rfl⟩
    obtain ⟨Z, hZ⟩ : ∃ Z, Y.alloc (.cells (askListP (getAsks pi pw t)).toArray 70) = Z := ⟨_, rfl⟩
    have j : Below Y.heap.size Y Z := by rw [← hZ]; exact (Below.refl _ Y).alloc (Nat.le_refl _) _
    have hL3' : CellsAt Z g3 (askListP (getAsks pi pw t)) := by rw [← hZ, ← hg3]; exact CellsAt.of (Blk.new Y _ _)
    rw [show Y.alloc (.cells #[.func (.func 85) #[] #[.pointer (some ⟨pi, 0, none⟩)], .int .i64 1, .func (.func 62) #[] #[.pointer (some ⟨pw, 0, none⟩)], .int .i64 2] 70) = Z from hZ, hg3]
    clear hZ hg3
    replace h := h.step j; replace hB := hB.below j hB.lt; replace hP := hP.below j hP.lt; replace hR := hR.below j hR.lt; replace hLa := hLa.below j (Nat.le_refl _); replace hAns := hAns.step j
    replace hG := hG.below j hG.lt; (try replace hI := hI.below j hI.lt); (try replace hW := hW.below j hW.lt); (try replace hO := hO.below j hO.lt); (try replace hL3 := hL3.below j (Nat.le_refl _)); (try replace hL1 := hL1.below j (Nat.le_refl _)); (try replace hAp := hAp.below j (Nat.le_refl _))
    replace kY := kY.trans (j.mono kY.size); clear j
    have hL3 := hL3'
    clear hL3'
    refine hK.out _ _ (BkS.of hB) (fun hHeld => ?_)
    clear hK K
    try simp only [Act.put, pu1, pu2, pu3, pu4, pu5, pu6]
    obtain ⟨Y, rfl⟩ : ∃ Y : World, Y = Z := ⟨_, rfl⟩
    refine wpAnyH_ready (rs := [10]) (by kernel_rfl) (by simp) ?_
    refine AllReadyH.cons rfl (fun K hK => ?_) AllReadyH.nil
    rw [if_pos (by rfl)]
    refine wp_append_full _ _ 116 rfl Tryz.underlying116 infoAsk g3 2 (askListP (getAsks pi pw t)) rfl rfl hL3 ga (la.length + 1) ca (askListP la ++ askListP (opAsk po s t)) rfl (by rw [List.length_append, askListP_len, askListP_len]; simp [opAsk]; omega) hAp (by omega) (by unfold maxLen; omega) (by omega) ?_
    intro gz cz Z hgz j hAz'
    clear hgz
    replace h := h.step j; replace hB := hB.below j hB.lt; replace hP := hP.below j hP.lt; replace hR := hR.below j hR.lt; replace hLa := hLa.below j (Nat.le_refl _); replace hAns := hAns.step j
    replace hG := hG.below j hG.lt; (try replace hI := hI.below j hI.lt); (try replace hW := hW.below j hW.lt); (try replace hO := hO.below j hO.lt); (try replace hL3 := hL3.below j (Nat.le_refl _)); (try replace hL1 := hL1.below j (Nat.le_refl _)); (try replace hAp := hAp.below j (Nat.le_refl _))
    replace kY := kY.trans (j.mono kY.size); clear j
    have hAz := hAz'
    clear hAz'
    rw [← askListP_append, ← askListP_append] at hAz
    have hrow := Lib.hid (askRow_cells hAz)
    have hans := Lib.hid ((getAsk_ans h hI hW).append (hAns.append (opAsk_ans h hO)))
    clear hAz hAp hL1 hL3
    refine hK.out _ _ (BkS.of hB) (fun hHeld => ?_)
    clear hK K
    try simp only [Act.put, pu1, pu2, pu3, pu4, pu5, pu6]
    obtain ⟨Y, rfl⟩ : ∃ Y : World, Y = Z := ⟨_, rfl⟩
    refine wpAnyH_ready (rs := [11]) (by kernel_rfl) (by simp) ?_
    refine AllReadyH.cons rfl (fun K hK => ?_) AllReadyH.nil
    go_simp
    refine (asked_okM Y gz (2 + (la.length + 1)) cz _ (by simp [getAsks, opAsk]; omega) (by simp [getAsks, opAsk]; omega) hrow hans).mono ?_; rintro e Z ⟨rfl, j⟩
    rw [getE_eq]
    clear hrow hans
    replace h := h.step j; replace hB := hB.below j hB.lt; replace hP := hP.below j hP.lt; replace hR := hR.below j hR.lt; replace hLa := hLa.below j (Nat.le_refl _); replace hAns := hAns.step j
    replace hG := hG.below j hG.lt; (try replace hI := hI.below j hI.lt); (try replace hW := hW.below j hW.lt); (try replace hO := hO.below j hO.lt); (try replace hL3 := hL3.below j (Nat.le_refl _)); (try replace hL1 := hL1.below j (Nat.le_refl _)); (try replace hAp := hAp.below j (Nat.le_refl _))
    replace kY := kY.trans (j.mono kY.size); clear j
    go_wp2_with fail
    refine hK.out _ _ (BkS.of hB) (fun hHeld => ?_)
    clear hK K
    try simp only [Act.put, pu1, pu2, pu3, pu4, pu5, pu6]
    refine wpAnyH_take (i := 12) (v := ?_) rfl (by kernel_rfl) (by kernel_rfl) (by kernel_rfl) (fun _ _ _ h => h) (Or.inl ⟨by rfl, ?_⟩) (by assumption) ?_
    rotate_left
    ·(intro Y hSw; (try dsimp only at hSw); obtain ⟨hS0, hS1⟩ := hSw; go_simp; try with_reducible rfl)
    try simp only [Act.put, pu1, pu2, pu3, pu4, pu5, pu6]
    refine wpAnyH_done (by kernel_rfl) ?_ _
    rw [onlyN_normal]
    clear hI hW hO
    go_wp2_with fail
    refine wp_onlyN ?_
    refine wp_region_held_drew (S := BkS b5 (.pointer (some ⟨k.b, 0, none⟩)) t) (by kernel_rfl) (BkS.of hB) (fun hHeld2 => ?_)
    obtain ⟨Z2, hZ2⟩ : ∃ Z2, Z.drew = Z2 := ⟨_, rfl⟩
    have j : Below Z.heap.size Z Z2 := by rw [← hZ2]; exact (Below.refl _ Z).drew
    rw [hZ2] at hHeld2 ⊢
    clear hZ2
    replace h := h.step j; replace hB := hB.below j hB.lt; replace hP := hP.below j hP.lt; replace hR := hR.below j hR.lt; replace hLa := hLa.below j (Nat.le_refl _); replace hAns := hAns.step j
    replace hG := hG.below j hG.lt; (try replace hI := hI.below j hI.lt); (try replace hW := hW.below j hW.lt); (try replace hO := hO.below j hO.lt); (try replace hL3 := hL3.below j (Nat.le_refl _)); (try replace hL1 := hL1.below j (Nat.le_refl _)); (try replace hAp := hAp.below j (Nat.le_refl _))
    replace kY := kY.trans (j.mono kY.size); clear j
    obtain ⟨Y, rfl⟩ : ∃ Y : World, Y = Z2 := ⟨_, rfl⟩
    refine wpAnyH_take (i := 0) (v := ?_) rfl (by kernel_rfl) (by kernel_rfl) (by kernel_rfl) (fun _ _ _ h => h) (Or.inl ⟨by rfl, ?_⟩) (by assumption) ?_
    rotate_left
    ·(intro Y hSw; (try dsimp only at hSw); obtain ⟨hS0, hS1⟩ := hSw; go_simp; try with_reducible rfl)
    try simp only [Act.put, pu1, pu2, pu3, pu4, pu5, pu6]
    refine wpAnyH_take (i := 1) (v := ?_) rfl (by kernel_rfl) (by kernel_rfl) (by kernel_rfl) (fun _ _ _ h => h) (Or.inl ⟨by rfl, ?_⟩) (by assumption) ?_
    rotate_left
    ·(intro Y hSw; (try dsimp only at hSw); obtain ⟨hS0, hS1⟩ := hSw; go_simp; try with_reducible rfl)
    try simp only [Act.put, pu1, pu2, pu3, pu4, pu5, pu6]
    refine wpAnyH_take (i := 2) (v := ?_) rfl (by kernel_rfl) (by kernel_rfl) (by kernel_rfl) (fun _ _ _ h => h) (Or.inl ⟨by rfl, ?_⟩) (by assumption) ?_
    rotate_left
    ·(intro Y hSw; (try dsimp only at hSw); obtain ⟨hS0, hS1⟩ := hSw; go_simp; try with_reducible rfl)
    try simp only [Act.put, pu1, pu2, pu3, pu4, pu5, pu6]
    refine wpAnyH_take (i := 5) (v := ?_) rfl (by kernel_rfl) (by kernel_rfl) (by kernel_rfl) (fun _ _ _ h => h) (Or.inl ⟨by rfl, ?_⟩) (by assumption) ?_
    rotate_left
    ·(intro Y hSw; (try dsimp only at hSw); obtain ⟨hS0, hS1⟩ := hSw; go_simp; try with_reducible rfl)
    try simp only [Act.put, pu1, pu2, pu3, pu4, pu5, pu6]
    refine wpAnyH_take (i := 8) (v := ?_) rfl (by kernel_rfl) (by kernel_rfl) (by kernel_rfl) (fun _ _ _ h => h) (Or.inl ⟨by rfl, ?_⟩) (by assumption) ?_
    rotate_left
    ·(intro Y hSw; (try dsimp only at hSw); obtain ⟨hS0, hS1⟩ := hSw; go_simp; try with_reducible rfl)
    try simp only [Act.put, pu1, pu2, pu3, pu4, pu5, pu6]
    refine wpAnyH_ready (rs := [3]) (by kernel_rfl) (by simp) ?_
    refine AllReadyH.cons rfl (fun K hK => ?_) AllReadyH.nil
    go_simp
    refine (mbase_calls _ t _).mono ?_; rintro e Z ⟨rfl, j⟩
    replace h := h.step j; replace hB := hB.below j hB.lt; replace hP := hP.below j hP.lt; replace hR := hR.below j hR.lt; replace hLa := hLa.below j (Nat.le_refl _); replace hAns := hAns.step j
    replace hG := hG.below j hG.lt; (try replace hI := hI.below j hI.lt); (try replace hW := hW.below j hW.lt); (try replace hO := hO.below j hO.lt); (try replace hL3 := hL3.below j (Nat.le_refl _)); (try replace hL1 := hL1.below j (Nat.le_refl _)); (try replace hAp := hAp.below j (Nat.le_refl _))
    replace kY := kY.trans (j.mono kY.size); clear j
    go_wp2_with fail
    refine hK.out _ _ (BkS.of hB) (fun hHeld => ?_)
    clear hK K
    try simp only [Act.put, pu1, pu2, pu3, pu4, pu5, pu6]
    obtain ⟨Y, rfl⟩ : ∃ Y : World, Y = Z := ⟨_, rfl⟩
    refine wpAnyH_take (i := 4) (v := ?_) rfl (by kernel_rfl) (by kernel_rfl) (by kernel_rfl) (fun _ _ _ h => h) (Or.inl ⟨by rfl, ?_⟩) (by assumption) ?_
    rotate_left
    ·(intro Y hSw; (try dsimp only at hSw); obtain ⟨hS0, hS1⟩ := hSw; go_simp; try with_reducible rfl)
    try simp only [Act.put, pu1, pu2, pu3, pu4, pu5, pu6]
    refine wpAnyH_take (i := 6) (v := ?_) rfl (by kernel_rfl) (by kernel_rfl) (by kernel_rfl) (fun _ _ _ h => h) (Or.inl ⟨by rfl, ?_⟩) (by assumption) ?_
    rotate_left
    ·(intro Y hSw; (try dsimp only at hSw); obtain ⟨hS0, hS1⟩ := hSw; go_simp; try with_reducible rfl)
    try simp only [Act.put, pu1, pu2, pu3, pu4, pu5, pu6]
    refine wpAnyH_take (i := 7) (v := ?_) rfl (by kernel_rfl) (by kernel_rfl) (by kernel_rfl) (fun _ _ _ h => h) (Or.inl ⟨by rfl, ?_⟩) (by assumption) ?_
    rotate_left
    ·(intro Y hSw; (try dsimp only at hSw); obtain ⟨hS0, hS1⟩ := hSw; go_simp; try with_reducible rfl)
    try simp only [Act.put, pu1, pu2, pu3, pu4, pu5, pu6]
    refine wpAnyH_ready (rs := [9]) (by kernel_rfl) (by simp) ?_
    refine AllReadyH.cons rfl (fun K hK => ?_) AllReadyH.nil
    go_simp
    refine (h.peek (bkO t * 256 + at_) 16 (by omega) (by omega) (.inl (by decide))).mono ?_; rintro e Z ⟨v, rfl, ho, j⟩
    rw [hPk.1]
    rw [hPk.2.1] at ho
    obtain ⟨pg, pc, rfl, hv, hpc, hpm⟩ := peek_rowG hPk.2.2.1 ho
    clear ho
    replace h := h.step j; replace hB := hB.below j hB.lt; replace hP := hP.below j hP.lt; replace hR := hR.below j hR.lt; replace hLa := hLa.below j (Nat.le_refl _); replace hAns := hAns.step j
    replace hG := hG.below j hG.lt; (try replace hI := hI.below j hI.lt); (try replace hW := hW.below j hW.lt); (try replace hO := hO.below j hO.lt); (try replace hL3 := hL3.below j (Nat.le_refl _)); (try replace hL1 := hL1.below j (Nat.le_refl _)); (try replace hAp := hAp.below j (Nat.le_refl _))
    replace kY := kY.trans (j.mono kY.size); clear j
    go_wp2_with fail
    refine hK.out _ _ (BkS.of hB) (fun hHeld => ?_)
    clear hK K
    try simp only [Act.put, pu1, pu2, pu3, pu4, pu5, pu6]
    refine wpAnyH_take (i := 10) (v := ?_) rfl (by kernel_rfl) (by kernel_rfl) (by kernel_rfl) (fun _ _ _ h => h) (Or.inl ⟨by rfl, ?_⟩) (by assumption) ?_
    rotate_left
    ·(intro Y hSw; (try dsimp only at hSw); obtain ⟨hS0, hS1⟩ := hSw; go_simp; try with_reducible rfl)
    try simp only [Act.put, pu1, pu2, pu3, pu4, pu5, pu6]
    refine wpAnyH_take (i := 11) (v := ?_) rfl (by kernel_rfl) (by kernel_rfl) (by kernel_rfl) (fun _ _ _ h => h) (Or.inl ⟨by rfl, ?_⟩) (by assumption) ?_
    rotate_left
    ·(intro Y hSw; (try dsimp only at hSw); obtain ⟨hS0, hS1⟩ := hSw; go_simp; try with_reducible rfl)
    try simp only [Act.put, pu1, pu2, pu3, pu4, pu5, pu6]
    refine wpAnyH_take (i := 12) (v := ?_) rfl (by kernel_rfl) (by kernel_rfl) (by kernel_rfl) (fun _ _ _ h => h) (Or.inl ⟨by rfl, ?_⟩) (by assumption) ?_
    rotate_left
    ·(intro Y hSw; (try dsimp only at hSw); obtain ⟨hS0, hS1⟩ := hSw; go_simp; try with_reducible rfl)
    try simp only [Act.put, pu1, pu2, pu3, pu4, pu5, pu6]
    refine wpAnyH_take (i := 13) (v := ?_) rfl (by kernel_rfl) (by kernel_rfl) (by kernel_rfl) (fun _ _ _ h => h) (Or.inl ⟨by rfl, ?_⟩) (by assumption) ?_
    rotate_left
    ·(intro Y hSw; (try dsimp only at hSw); obtain ⟨hS0, hS1⟩ := hSw; go_simp; try with_reducible rfl)
    try simp only [Act.put, pu1, pu2, pu3, pu4, pu5, pu6]
    refine wpAnyH_take (i := 14) (v := ?_) rfl (by kernel_rfl) (by kernel_rfl) (by kernel_rfl) (fun _ _ _ h => h) (Or.inl ⟨by rfl, ?_⟩) (by assumption) ?_
    rotate_left
    ·(intro Y hSw; (try dsimp only at hSw); obtain ⟨hS0, hS1⟩ := hSw; go_simp; try with_reducible rfl)
    try simp only [Act.put, pu1, pu2, pu3, pu4, pu5, pu6]
    refine wpAnyH_done (by kernel_rfl) ?_ _
    rw [onlyN_normal]
    have s0 := hP.cell 0 (v := .slice (some ⟨g, 0, none⟩) 6 6) rfl
    have s1 := hP.cell 1 (v := .func (.func 122) #[] #[]) rfl
    go_wp2_with fail
    refine (recordG_ok L hPk.2.2.1 hPk.2.2.2 hpc hpm hG hv (Nat.le_refl _)).mono ?_; rintro e Z9 ⟨rfl, j⟩
    clear s0 s1 hv
    replace h := h.step j; replace hB := hB.below j hB.lt; replace hP := hP.below j hP.lt; replace hR := hR.below j hR.lt; replace hLa := hLa.below j (Nat.le_refl _); replace hAns := hAns.step j
    replace hG := hG.below j hG.lt; (try replace hI := hI.below j hI.lt); (try replace hW := hW.below j hW.lt); (try replace hO := hO.below j hO.lt); (try replace hL3 := hL3.below j (Nat.le_refl _)); (try replace hL1 := hL1.below j (Nat.le_refl _)); (try replace hAp := hAp.below j (Nat.le_refl _))
    replace kY := kY.trans (j.mono kY.size); clear j
    have c0 := hR.cell 0 (v := .int .i64 0) rfl
    have c1 := hR.cell 1 (v := .int .i64 0) rfl
    have c2 := hR.cell 2 (v := .int .i64 0) rfl
    have c3 := hR.cell 3 (v := .int .i64 0) rfl
    have g0 := hR.frozen 0
    have g1 := hR.frozen 1
    have g2 := hR.frozen 2
    have g3 := hR.frozen 3
    have zl := hR.lt
    cases hok : grtOk L
    ·have HOK := Lib.hid hok
     clear hok
     simp only [Bool.false_eq_true, if_false]
     go_wp2_with fail
     refine ret_g2 Tryz.results54 b10 (by rfl) ((hR.set4G (.int .i64 0) (.int .i64 0) (.int .i64 0) (.int .i64 0)).set4G (.int .i64 0) (.int .i64 0) (.int .i64 0) (.int .i64 0)) rfl rfl ⟨?_, (((((((kY.setCell hb10 _).setCell hb10 _).setCell hb10 _).setCell hb10 _).setCell hb10 _).setCell hb10 _).setCell hb10 _).setCell hb10 _⟩
     have h9 : grtOk L = false := HOK.out
     unfold grtV grtN
     rw [h9]
     rfl
    ·have HOK := Lib.hid hok
     clear hok
     simp only [if_true]
     go_wp2_with fail
     refine ret_g2 Tryz.results54 b10 (by rfl) ((hR.set4G (.int .i64 (grtJ L 6).1) (.int .i64 (grtJ L 6).2.1) (.int .i64 (grtJ L 6).2.2.1) (.int .i64 (grtJ L 6).2.2.2)).set4G (.int .i64 (grtJ L 6).1) (.int .i64 (grtJ L 6).2.1) (.int .i64 (grtJ L 6).2.2.1) (.int .i64 (grtJ L 6).2.2.2)) rfl rfl ⟨?_, (((((((kY.setCell hb10 _).setCell hb10 _).setCell hb10 _).setCell hb10 _).setCell hb10 _).setCell hb10 _).setCell hb10 _).setCell hb10 _⟩
     have h9 : grtOk L = true := HOK.out
     unfold grtV grtN
     rw [h9]
     rfl
end Go.Proofs.YtlpchcdalfkfcaaGreat

