/-
  Package meta: getting a record that is refused. Conditions: a memory's books in order.
-/
import Derived.Test.YtlpchcdalfkfcaaGreatBMeX
namespace Go.Proofs.YtlpchcdalfkfcaaGreat
open Go.RowKit Go.ChangeShapes
attribute [local go_sem] Oper.semAt_some
set_option maxHeartbeats 8000000
set_option maxRecDepth 8000

variable {w0 w : World} {k : Mb} {s : Ms}
def getAsks (pi pw : Nat) (t : Int) : List AskP :=
  [⟨85, #[], #[.pointer (some ⟨pi, 0, none⟩)], 1, false⟩, ⟨62, #[], #[.pointer (some ⟨pw, 0, none⟩)], 2, !inB 3 t⟩]
def gtE (s : Ms) (t : Int) (la : List AskP) : Int := if inB 3 t = false then 2 else if la.any (·.wrong) then firstErrP la else if opB s t = false then 5 else 0
theorem getE_eq (pi pw po : Nat) (s : Ms) (t : Int) (la : List AskP) : firstErrP (getAsks pi pw t ++ (la ++ opAsk po s t)) = gtE s t la := by
  rw [firstErrP_append, firstErrP_append]
  unfold gtE getAsks opAsk
  cases inB 3 t <;> cases opB s t <;> simp [firstErrP]
theorem getAsk_ans {Y : World} (h : LivM w0 Y k s) {pi pw : Nat} {t : Int} (hI : Blk Y pi #[.pointer (some ⟨k.b, 0, none⟩), .int .i64 t] 72) (hW : Blk Y pw #[.pointer (some ⟨k.b, 0, none⟩), .int .i64 t] 72) : AnswersP Y (getAsks pi pw t) := by
  constructor
  · intro i hi args W
    match i, hi with
    | 0, _ => exact enters_of Tryz.func85 (by kernel_rfl) rfl args W
    | 1, _ => exact enters_of Tryz.func62 (by kernel_rfl) rfl args W
  · intro i hi X _ kx
    match i, hi with
    | 0, _ => exact mis1_calls (h.step kx) (hI.below kx hI.lt)
    | 1, _ => exact mwho1_calls (hW.below kx hW.lt)
theorem ret_r2 {fn : Func} {R : Ending → World → Prop} {a : Act} {w : World} {p u : Tmp} (h : fn.results = #[.cell p 47, .tmp u]) (g : Nat) {cs : Array Value} {t : TypeId} (hp : a.tmps.getD p undef = .pointer (some ⟨g, 0, none⟩))
    (hB : Blk w g cs t) (hs : cs.size = 3) (hd : a.defers = []) (hR : R (.returned (.tuple #[.agg cs, a.tmps.getD u undef])) w) : bodyPost Tryz.prog fn R .ret a w := by
  refine bodyPost_ret (v := .tuple #[.agg cs, a.tmps.getD u undef]) ?_ hd hR
  have hp' : a.tmps[p]?.getD undef = .pointer (some ⟨g, 0, none⟩) := by simpa using hp
  have hl : (loadVar 47 ⟨g, 0, none⟩).run Tryz.prog w = .ok (.agg cs) w := run_loadVar_row w g t _ cs (0, 0) _ hB Tryz.underlying47 rfl (by rw [hs]; exact rec_info)
  simp [results, h, hp', asAddr, hl]
theorem mgetR_no (h : LivM w0 w k s) (t at_ wide : Int) (g lb : Nat) (la : List AskP) (hla : la ≠ []) (hla2 : la.length ≤ 100) (hLa : CellsAt w lb (askListP la)) (hAns : AnswersP w la) (hE : gtE s t la ≠ 0) :
    Calls Tryz.prog 51 #[.agg #[.pointer (some ⟨k.b, 0, none⟩), .int .i64 t], .agg #[.slice (some ⟨g, 0, none⟩) 4 4, .func (.func 111) #[] #[]], .int .i64 at_, .int .i64 wide, .slice (some ⟨lb, 0, none⟩) la.length la.length] w
      fun e w' => e = .returned (.tuple #[.agg #[.int .i64 0, .int .i64 0, .int .u32 0], .int .i64 (gtE s t la)]) ∧ Below w.heap.size w w' := by
  obtain ⟨Y, hY⟩ : ∃ Y, ((w.alloc (.cells #[.pointer (some ⟨k.b, 0, none⟩), .int .i64 t] 72)).alloc (.cells #[.slice (some ⟨g, 0, none⟩) 4 4, .func (.func 111) #[] #[]] 106)).alloc (.cells #[.int .i64 0, .int .i64 0, .int .u32 0] 47) = Y := ⟨_, rfl⟩
  have hB : Blk Y w.heap.size #[.pointer (some ⟨k.b, 0, none⟩), .int .i64 t] 72 := by rw [← hY]; exact ((Blk.new w _ _).alloc _).alloc _
  have hP : Blk Y (w.heap.size + 1) #[.slice (some ⟨g, 0, none⟩) 4 4, .func (.func 111) #[] #[]] 106 := by rw [← hY]; exact (Blk.newAt _ _ _ (by simp)).alloc _
  have hR : Blk Y (w.heap.size + 1 + 1) #[.int .i64 0, .int .i64 0, .int .u32 0] 47 := by rw [← hY]; exact Blk.newAt _ _ _ (by simp)
  have kY : Below w.heap.size w Y := by rw [← hY]; exact (((Below.refl _ w).alloc (Nat.le_refl _) _).alloc (by simp) _).alloc (by simp; omega) _
  replace h := h.step kY
  replace hLa := hLa.below kY (Nat.le_refl _)
  replace hAns := hAns.step kY
  have hl0 : 0 < la.length := List.length_pos_iff.2 hla
  go_enter Tryz.func51, Tryz.ntmps51
  go_wp2_with fail
  clear hY
  obtain ⟨b10, hb⟩ : ∃ b, w.heap.size + 1 + 1 = b := ⟨_, rfl⟩
  rw [hb] at hR ⊢
  have hb10 : w.heap.size ≤ b10 := by omega
  clear hb
  obtain ⟨b6, hb6⟩ : ∃ b, w.heap.size + 1 = b := ⟨_, rfl⟩
  rw [hb6] at hP ⊢
  clear hb6
  obtain ⟨b5, hb5⟩ : ∃ b, w.heap.size = b := ⟨_, rfl⟩
  rw [hb5] at hB ⊢
  clear hb5
  refine wp_onlyN ?_
  refine wp_region_held_drew (S := BkS b5 (.pointer (some ⟨k.b, 0, none⟩)) t) (by kernel_rfl) (BkS.of hB) (fun hHeld => ?_)
  obtain ⟨Z, hZ⟩ : ∃ Z, Y.drew = Z := ⟨_, rfl⟩
  have j : Below Y.heap.size Y Z := by rw [← hZ]; exact (Below.refl _ Y).drew
  rw [hZ] at hHeld ⊢
  clear hZ
  replace h := h.step j; replace hB := hB.below j hB.lt; replace hP := hP.below j hP.lt; replace hR := hR.below j hR.lt; replace hLa := hLa.below j (Nat.le_refl _); replace hAns := hAns.step j
  (try replace hI := hI.below j hI.lt); (try replace hW := hW.below j hW.lt); (try replace hO := hO.below j hO.lt); (try replace hL3 := hL3.below j (Nat.le_refl _)); (try replace hL1 := hL1.below j (Nat.le_refl _)); (try replace hAp := hAp.below j (Nat.le_refl _))
  replace kY := kY.trans (j.mono kY.size); clear j
  obtain ⟨Y, rfl⟩ : ∃ Y : World, Y = Z := ⟨_, rfl⟩
  refine wpAnyH_take (i := 0) (v := ?_) rfl (by kernel_rfl) (by kernel_rfl) (by kernel_rfl) (fun _ _ _ h => h) (Or.inl ⟨by rfl, ?_⟩) (by assumption) ?_
  rotate_left
  · (intro Y hSw; (try dsimp only at hSw); obtain ⟨hS0, hS1⟩ := hSw; go_simp; try with_reducible rfl)
  try simp only [Act.put, List.getElem_toArray, List.getElem_cons_zero, List.getElem_cons_succ, List.setIfInBounds_toArray, List.set_cons_zero, List.set_cons_succ]
  refine wpAnyH_take (i := 2) (v := ?_) rfl (by kernel_rfl) (by kernel_rfl) (by kernel_rfl) (fun _ _ _ h => h) (Or.inl ⟨by rfl, ?_⟩) (by assumption) ?_
  rotate_left
  · (intro Y hSw; (try dsimp only at hSw); obtain ⟨hS0, hS1⟩ := hSw; go_simp; try with_reducible rfl)
  try simp only [Act.put, List.getElem_toArray, List.getElem_cons_zero, List.getElem_cons_succ, List.setIfInBounds_toArray, List.set_cons_zero, List.set_cons_succ]
  refine wpAnyH_take (i := 5) (v := ?_) rfl (by kernel_rfl) (by kernel_rfl) (by kernel_rfl) (fun _ _ _ h => h) (Or.inl ⟨by rfl, ?_⟩) (by assumption) ?_
  rotate_left
  · (intro Y hSw; (try dsimp only at hSw); obtain ⟨hS0, hS1⟩ := hSw; go_simp; try with_reducible rfl)
  try simp only [Act.put, List.getElem_toArray, List.getElem_cons_zero, List.getElem_cons_succ, List.setIfInBounds_toArray, List.set_cons_zero, List.set_cons_succ]
  refine wpAnyH_take (i := 6) (v := ?_) rfl (by kernel_rfl) (by kernel_rfl) (by kernel_rfl) (fun _ _ _ h => h) (Or.inl ⟨by rfl, ?_⟩) (by assumption) ?_
  rotate_left
  · (intro Y hSw; (try dsimp only at hSw); obtain ⟨hS0, hS1⟩ := hSw; go_simp; try with_reducible rfl)
  try simp only [Act.put, List.getElem_toArray, List.getElem_cons_zero, List.getElem_cons_succ, List.setIfInBounds_toArray, List.set_cons_zero, List.set_cons_succ]
  refine wpAnyH_ready (rs := [1]) (by kernel_rfl) (by simp) ?_
  refine AllReadyH.cons rfl (fun K hK => ?_) AllReadyH.nil
  go_simp
  refine (mis_calls _ t _).mono ?_; rintro e Z ⟨pi, rfl, hI, j⟩
  replace h := h.step j; replace hB := hB.below j hB.lt; replace hP := hP.below j hP.lt; replace hR := hR.below j hR.lt; replace hLa := hLa.below j (Nat.le_refl _); replace hAns := hAns.step j
  (try replace hI := hI.below j hI.lt); (try replace hW := hW.below j hW.lt); (try replace hO := hO.below j hO.lt); (try replace hL3 := hL3.below j (Nat.le_refl _)); (try replace hL1 := hL1.below j (Nat.le_refl _)); (try replace hAp := hAp.below j (Nat.le_refl _))
  replace kY := kY.trans (j.mono kY.size); clear j
  go_wp2_with fail
  refine hK.out _ _ (BkS.of hB) (fun hHeld => ?_)
  clear hK K
  try simp only [Act.put, List.getElem_toArray, List.getElem_cons_zero, List.getElem_cons_succ, List.setIfInBounds_toArray, List.set_cons_zero, List.set_cons_succ]
  obtain ⟨Y, rfl⟩ : ∃ Y : World, Y = Z := ⟨_, rfl⟩
  refine wpAnyH_ready (rs := [3]) (by kernel_rfl) (by simp) ?_
  refine AllReadyH.cons rfl (fun K hK => ?_) AllReadyH.nil
  go_simp
  refine (mwho_calls _ t _).mono ?_; rintro e Z ⟨pw, rfl, hW, j⟩
  replace h := h.step j; replace hB := hB.below j hB.lt; replace hP := hP.below j hP.lt; replace hR := hR.below j hR.lt; replace hLa := hLa.below j (Nat.le_refl _); replace hAns := hAns.step j
  (try replace hI := hI.below j hI.lt); (try replace hW := hW.below j hW.lt); (try replace hO := hO.below j hO.lt); (try replace hL3 := hL3.below j (Nat.le_refl _)); (try replace hL1 := hL1.below j (Nat.le_refl _)); (try replace hAp := hAp.below j (Nat.le_refl _))
  replace kY := kY.trans (j.mono kY.size); clear j
  go_wp2_with fail
  refine hK.out _ _ (BkS.of hB) (fun hHeld => ?_)
  clear hK K
  try simp only [Act.put, List.getElem_toArray, List.getElem_cons_zero, List.getElem_cons_succ, List.setIfInBounds_toArray, List.set_cons_zero, List.set_cons_succ]
  obtain ⟨Y, rfl⟩ : ∃ Y : World, Y = Z := ⟨_, rfl⟩
  refine wpAnyH_ready (rs := [4, 7]) (by kernel_rfl) (by simp) ?_
  refine AllReadyH.cons rfl (fun K hK => ?_) (AllReadyH.cons rfl (fun K hK => ?_) AllReadyH.nil)
  · go_simp
    obtain ⟨g3, hg3⟩ : ∃ g, Y.heap.size = g := ⟨_, rfl⟩
    obtain ⟨Z, hZ⟩ : ∃ Z, Y.alloc (.cells (askListP (getAsks pi pw t)).toArray 70) = Z := ⟨_, rfl⟩
    have j : Below Y.heap.size Y Z := by rw [← hZ]; exact (Below.refl _ Y).alloc (Nat.le_refl _) _
    have hL3' : CellsAt Z g3 (askListP (getAsks pi pw t)) := by rw [← hZ, ← hg3]; exact CellsAt.of (Blk.new Y _ _)
    rw [show Y.alloc (.cells #[.func (.func 85) #[] #[.pointer (some ⟨pi, 0, none⟩)], .int .i64 1, .func (.func 62) #[] #[.pointer (some ⟨pw, 0, none⟩)], .int .i64 2] 70) = Z from hZ, hg3]
    clear hZ hg3
    replace h := h.step j; replace hB := hB.below j hB.lt; replace hP := hP.below j hP.lt; replace hR := hR.below j hR.lt; replace hLa := hLa.below j (Nat.le_refl _); replace hAns := hAns.step j
    (try replace hI := hI.below j hI.lt); (try replace hW := hW.below j hW.lt); (try replace hO := hO.below j hO.lt); (try replace hL3 := hL3.below j (Nat.le_refl _)); (try replace hL1 := hL1.below j (Nat.le_refl _)); (try replace hAp := hAp.below j (Nat.le_refl _))
    replace kY := kY.trans (j.mono kY.size); clear j
    have hL3 := hL3'
    clear hL3'
    refine hK.out _ _ (BkS.of hB) (fun hHeld => ?_)
    clear hK K
    try simp only [Act.put, List.getElem_toArray, List.getElem_cons_zero, List.getElem_cons_succ, List.setIfInBounds_toArray, List.set_cons_zero, List.set_cons_succ]
    obtain ⟨Y, rfl⟩ : ∃ Y : World, Y = Z := ⟨_, rfl⟩
    refine wpAnyH_ready (rs := [7]) (by kernel_rfl) (by simp) ?_
    refine AllReadyH.cons rfl (fun K hK => ?_) AllReadyH.nil
    go_simp
    refine (mopened_calls _ t _).mono ?_; rintro e Z ⟨po, rfl, hO, j⟩
    replace h := h.step j; replace hB := hB.below j hB.lt; replace hP := hP.below j hP.lt; replace hR := hR.below j hR.lt; replace hLa := hLa.below j (Nat.le_refl _); replace hAns := hAns.step j
    (try replace hI := hI.below j hI.lt); (try replace hW := hW.below j hW.lt); (try replace hO := hO.below j hO.lt); (try replace hL3 := hL3.below j (Nat.le_refl _)); (try replace hL1 := hL1.below j (Nat.le_refl _)); (try replace hAp := hAp.below j (Nat.le_refl _))
    replace kY := kY.trans (j.mono kY.size); clear j
    go_wp2_with fail
    refine hK.out _ _ (BkS.of hB) (fun hHeld => ?_)
    clear hK K
    try simp only [Act.put, List.getElem_toArray, List.getElem_cons_zero, List.getElem_cons_succ, List.setIfInBounds_toArray, List.set_cons_zero, List.set_cons_succ]
    obtain ⟨Y, rfl⟩ : ∃ Y : World, Y = Z := ⟨_, rfl⟩
    refine wpAnyH_ready (rs := [8]) (by kernel_rfl) (by simp) ?_
    refine AllReadyH.cons rfl (fun K hK => ?_) AllReadyH.nil
    go_simp
    obtain ⟨g1, hg1⟩ : ∃ g, Y.heap.size = g := ⟨_, rfl⟩
    obtain ⟨Z, hZ⟩ : ∃ Z, Y.alloc (.cells (askListP (opAsk po s t)).toArray 70) = Z := ⟨_, rfl⟩
    have j : Below Y.heap.size Y Z := by rw [← hZ]; exact (Below.refl _ Y).alloc (Nat.le_refl _) _
    have hL1' : CellsAt Z g1 (askListP (opAsk po s t)) := by rw [← hZ, ← hg1]; exact CellsAt.of (Blk.new Y _ _)
    rw [show Y.alloc (.cells #[.func (.func 175) #[] #[.pointer (some ⟨po, 0, none⟩)], .int .i64 5] 70) = Z from hZ, hg1]
    clear hZ hg1
    replace h := h.step j; replace hB := hB.below j hB.lt; replace hP := hP.below j hP.lt; replace hR := hR.below j hR.lt; replace hLa := hLa.below j (Nat.le_refl _); replace hAns := hAns.step j
    (try replace hI := hI.below j hI.lt); (try replace hW := hW.below j hW.lt); (try replace hO := hO.below j hO.lt); (try replace hL3 := hL3.below j (Nat.le_refl _)); (try replace hL1 := hL1.below j (Nat.le_refl _)); (try replace hAp := hAp.below j (Nat.le_refl _))
    replace kY := kY.trans (j.mono kY.size); clear j
    have hL1 := hL1'
    clear hL1'
    refine hK.out _ _ (BkS.of hB) (fun hHeld => ?_)
    clear hK K
    try simp only [Act.put, List.getElem_toArray, List.getElem_cons_zero, List.getElem_cons_succ, List.setIfInBounds_toArray, List.set_cons_zero, List.set_cons_succ]
    obtain ⟨Y, rfl⟩ : ∃ Y : World, Y = Z := ⟨_, rfl⟩
    refine wpAnyH_ready (rs := [9]) (by kernel_rfl) (by simp) ?_
    refine AllReadyH.cons rfl (fun K hK => ?_) AllReadyH.nil
    rw [if_pos (by rfl)]
    refine wp_append_full _ _ 116 rfl Tryz.underlying116 infoAsk lb la.length (askListP la) rfl (askListP_len la) hLa g1 1 1 (askListP (opAsk po s t)) rfl rfl hL1 (by omega) (by unfold maxLen; omega) (by omega) ?_
    intro ga ca Z hga j hAp'
    clear hga
    replace h := h.step j; replace hB := hB.below j hB.lt; replace hP := hP.below j hP.lt; replace hR := hR.below j hR.lt; replace hLa := hLa.below j (Nat.le_refl _); replace hAns := hAns.step j
    (try replace hI := hI.below j hI.lt); (try replace hW := hW.below j hW.lt); (try replace hO := hO.below j hO.lt); (try replace hL3 := hL3.below j (Nat.le_refl _)); (try replace hL1 := hL1.below j (Nat.le_refl _)); (try replace hAp := hAp.below j (Nat.le_refl _))
    replace kY := kY.trans (j.mono kY.size); clear j
    have hAp := hAp'
    clear hAp'
    refine hK.out _ _ (BkS.of hB) (fun hHeld => ?_)
    clear hK K
    try simp only [Act.put, List.getElem_toArray, List.getElem_cons_zero, List.getElem_cons_succ, List.setIfInBounds_toArray, List.set_cons_zero, List.set_cons_succ]
    obtain ⟨Y, rfl⟩ : ∃ Y : World, Y = Z := ⟨_, rfl⟩
    refine wpAnyH_ready (rs := [10]) (by kernel_rfl) (by simp) ?_
    refine AllReadyH.cons rfl (fun K hK => ?_) AllReadyH.nil
    rw [if_pos (by rfl)]
    refine wp_append_full _ _ 116 rfl Tryz.underlying116 infoAsk g3 2 (askListP (getAsks pi pw t)) rfl rfl hL3 ga (la.length + 1) ca (askListP la ++ askListP (opAsk po s t)) rfl (by rw [List.length_append, askListP_len, askListP_len]; simp [opAsk]; omega) hAp (by omega) (by unfold maxLen; omega) (by omega) ?_
    intro gz cz Z hgz j hAz'
    clear hgz
    replace h := h.step j; replace hB := hB.below j hB.lt; replace hP := hP.below j hP.lt; replace hR := hR.below j hR.lt; replace hLa := hLa.below j (Nat.le_refl _); replace hAns := hAns.step j
    (try replace hI := hI.below j hI.lt); (try replace hW := hW.below j hW.lt); (try replace hO := hO.below j hO.lt); (try replace hL3 := hL3.below j (Nat.le_refl _)); (try replace hL1 := hL1.below j (Nat.le_refl _)); (try replace hAp := hAp.below j (Nat.le_refl _))
    replace kY := kY.trans (j.mono kY.size); clear j
    have hAz := hAz'
    clear hAz'
    rw [← askListP_append, ← askListP_append] at hAz
    have hrow := Lib.hid (askRow_cells hAz)
    have hans := Lib.hid ((getAsk_ans h hI hW).append (hAns.append (opAsk_ans h hO)))
    clear hAz hAp hL1 hL3
    refine hK.out _ _ (BkS.of hB) (fun hHeld => ?_)
    clear hK K
    try simp only [Act.put, List.getElem_toArray, List.getElem_cons_zero, List.getElem_cons_succ, List.setIfInBounds_toArray, List.set_cons_zero, List.set_cons_succ]
    obtain ⟨Y, rfl⟩ : ∃ Y : World, Y = Z := ⟨_, rfl⟩
    refine wpAnyH_ready (rs := [11]) (by kernel_rfl) (by simp) ?_
    refine AllReadyH.cons rfl (fun K hK => ?_) AllReadyH.nil
    go_simp
    refine (asked_okM Y gz (2 + (la.length + 1)) cz _ (by simp [getAsks, opAsk]; omega) (by simp [getAsks, opAsk]; omega) hrow hans).mono ?_; rintro e Z ⟨rfl, j⟩
    rw [getE_eq]
    clear hrow hans
    replace h := h.step j; replace hB := hB.below j hB.lt; replace hP := hP.below j hP.lt; replace hR := hR.below j hR.lt; replace hLa := hLa.below j (Nat.le_refl _); replace hAns := hAns.step j
    (try replace hI := hI.below j hI.lt); (try replace hW := hW.below j hW.lt); (try replace hO := hO.below j hO.lt); (try replace hL3 := hL3.below j (Nat.le_refl _)); (try replace hL1 := hL1.below j (Nat.le_refl _)); (try replace hAp := hAp.below j (Nat.le_refl _))
    replace kY := kY.trans (j.mono kY.size); clear j
    go_wp2_with fail
    refine hK.out _ _ (BkS.of hB) (fun hHeld => ?_)
    clear hK K
    try simp only [Act.put, List.getElem_toArray, List.getElem_cons_zero, List.getElem_cons_succ, List.setIfInBounds_toArray, List.set_cons_zero, List.set_cons_succ]
    refine wpAnyH_take (i := 12) (v := ?_) rfl (by kernel_rfl) (by kernel_rfl) (by kernel_rfl) (fun _ _ _ h => h) (Or.inl ⟨by rfl, ?_⟩) (by assumption) ?_
    rotate_left
    · (intro Y hSw; (try dsimp only at hSw); obtain ⟨hS0, hS1⟩ := hSw; go_simp; try with_reducible rfl)
    try simp only [Act.put, List.getElem_toArray, List.getElem_cons_zero, List.getElem_cons_succ, List.setIfInBounds_toArray, List.set_cons_zero, List.set_cons_succ]
    refine wpAnyH_done (by kernel_rfl) ?_ _
    rw [onlyN_normal]
    obtain ⟨q, hq⟩ : ∃ q, gtE s t la = q := ⟨_, rfl⟩
    rw [hq] at hE ⊢
    have HQ := Lib.hid hq
    have hq1 : (q == 0) = false := by simpa using hE
    clear hq
    have c0 := hR.cell 0 (v := .int .i64 0) rfl
    have c1 := hR.cell 1 (v := .int .i64 0) rfl
    have c2 := hR.cell 2 (v := .int .u32 0) rfl
    have g0 := hR.frozen 0
    have g1 := hR.frozen 1
    have g2 := hR.frozen 2
    have zl := hR.lt
    go_wp2_with fail
    refine ret_r2 Tryz.results51 b10 (by rfl) (hR.set3 (.int .i64 0) (.int .i64 0) (.int .u32 0)) rfl rfl ⟨by rw [HQ.out]; rfl, ((kY.setCell hb10 _).setCell hb10 _).setCell hb10 _⟩
  · go_simp
    refine (mopened_calls _ t _).mono ?_; rintro e Z ⟨po, rfl, hO, j⟩
    replace h := h.step j; replace hB := hB.below j hB.lt; replace hP := hP.below j hP.lt; replace hR := hR.below j hR.lt; replace hLa := hLa.below j (Nat.le_refl _); replace hAns := hAns.step j
    (try replace hI := hI.below j hI.lt); (try replace hW := hW.below j hW.lt); (try replace hO := hO.below j hO.lt); (try replace hL3 := hL3.below j (Nat.le_refl _)); (try replace hL1 := hL1.below j (Nat.le_refl _)); (try replace hAp := hAp.below j (Nat.le_refl _))
    replace kY := kY.trans (j.mono kY.size); clear j
    go_wp2_with fail
    refine hK.out _ _ (BkS.of hB) (fun hHeld => ?_)
    clear hK K
    try simp only [Act.put, List.getElem_toArray, List.getElem_cons_zero, List.getElem_cons_succ, List.setIfInBounds_toArray, List.set_cons_zero, List.set_cons_succ]
    obtain ⟨Y, rfl⟩ : ∃ Y : World, Y = Z := ⟨_, rfl⟩
    refine wpAnyH_ready (rs := [4, 8]) (by kernel_rfl) (by simp) ?_
    refine AllReadyH.cons rfl (fun K hK => ?_) (AllReadyH.cons rfl (fun K hK => ?_) AllReadyH.nil)
    · go_simp
      obtain ⟨g3, hg3⟩ : ∃ g, Y.heap.size = g := ⟨_, rfl⟩
      obtain ⟨Z, hZ⟩ : ∃ Z, Y.alloc (.cells (askListP (getAsks pi pw t)).toArray 70) = Z := ⟨_, rfl⟩
      have j : Below Y.heap.size Y Z := by rw [← hZ]; exact (Below.refl _ Y).alloc (Nat.le_refl _) _
      have hL3' : CellsAt Z g3 (askListP (getAsks pi pw t)) := by rw [← hZ, ← hg3]; exact CellsAt.of (Blk.new Y _ _)
      rw [show Y.alloc (.cells #[.func (.func 85) #[] #[.pointer (some ⟨pi, 0, none⟩)], .int .i64 1, .func (.func 62) #[] #[.pointer (some ⟨pw, 0, none⟩)], .int .i64 2] 70) = Z from hZ, hg3]
      clear hZ hg3
      replace h := h.step j; replace hB := hB.below j hB.lt; replace hP := hP.below j hP.lt; replace hR := hR.below j hR.lt; replace hLa := hLa.below j (Nat.le_refl _); replace hAns := hAns.step j
      (try replace hI := hI.below j hI.lt); (try replace hW := hW.below j hW.lt); (try replace hO := hO.below j hO.lt); (try replace hL3 := hL3.below j (Nat.le_refl _)); (try replace hL1 := hL1.below j (Nat.le_refl _)); (try replace hAp := hAp.below j (Nat.le_refl _))
      replace kY := kY.trans (j.mono kY.size); clear j
      have hL3 := hL3'
      clear hL3'
      refine hK.out _ _ (BkS.of hB) (fun hHeld => ?_)
      clear hK K
      try simp only [Act.put, List.getElem_toArray, List.getElem_cons_zero, List.getElem_cons_succ, List.setIfInBounds_toArray, List.set_cons_zero, List.set_cons_succ]
      obtain ⟨Y, rfl⟩ : ∃ Y : World, Y = Z := ⟨_, rfl⟩
      refine wpAnyH_ready (rs := [8]) (by kernel_rfl) (by simp) ?_
      refine AllReadyH.cons rfl (fun K hK => ?_) AllReadyH.nil
      go_simp
      obtain ⟨g1, hg1⟩ : ∃ g, Y.heap.size = g := ⟨_, rfl⟩
      obtain ⟨Z, hZ⟩ : ∃ Z, Y.alloc (.cells (askListP (opAsk po s t)).toArray 70) = Z := ⟨_, rfl⟩
      have j : Below Y.heap.size Y Z := by rw [← hZ]; exact (Below.refl _ Y).alloc (Nat.le_refl _) _
      have hL1' : CellsAt Z g1 (askListP (opAsk po s t)) := by rw [← hZ, ← hg1]; exact CellsAt.of (Blk.new Y _ _)
      rw [show Y.alloc (.cells #[.func (.func 175) #[] #[.pointer (some ⟨po, 0, none⟩)], .int .i64 5] 70) = Z from hZ, hg1]
      clear hZ hg1
      replace h := h.step j; replace hB := hB.below j hB.lt; replace hP := hP.below j hP.lt; replace hR := hR.below j hR.lt; replace hLa := hLa.below j (Nat.le_refl _); replace hAns := hAns.step j
      (try replace hI := hI.below j hI.lt); (try replace hW := hW.below j hW.lt); (try replace hO := hO.below j hO.lt); (try replace hL3 := hL3.below j (Nat.le_refl _)); (try replace hL1 := hL1.below j (Nat.le_refl _)); (try replace hAp := hAp.below j (Nat.le_refl _))
      replace kY := kY.trans (j.mono kY.size); clear j
      have hL1 := hL1'
      clear hL1'
      refine hK.out _ _ (BkS.of hB) (fun hHeld => ?_)
      clear hK K
      try simp only [Act.put, List.getElem_toArray, List.getElem_cons_zero, List.getElem_cons_succ, List.setIfInBounds_toArray, List.set_cons_zero, List.set_cons_succ]
      obtain ⟨Y, rfl⟩ : ∃ Y : World, Y = Z := ⟨_, rfl⟩
      refine wpAnyH_ready (rs := [9]) (by kernel_rfl) (by simp) ?_
      refine AllReadyH.cons rfl (fun K hK => ?_) AllReadyH.nil
      rw [if_pos (by rfl)]
      refine wp_append_full _ _ 116 rfl Tryz.underlying116 infoAsk lb la.length (askListP la) rfl (askListP_len la) hLa g1 1 1 (askListP (opAsk po s t)) rfl rfl hL1 (by omega) (by unfold maxLen; omega) (by omega) ?_
      intro ga ca Z hga j hAp'
      clear hga
      replace h := h.step j; replace hB := hB.below j hB.lt; replace hP := hP.below j hP.lt; replace hR := hR.below j hR.lt; replace hLa := hLa.below j (Nat.le_refl _); replace hAns := hAns.step j
      (try replace hI := hI.below j hI.lt); (try replace hW := hW.below j hW.lt); (try replace hO := hO.below j hO.lt); (try replace hL3 := hL3.below j (Nat.le_refl _)); (try replace hL1 := hL1.below j (Nat.le_refl _)); (try replace hAp := hAp.below j (Nat.le_refl _))
      replace kY := kY.trans (j.mono kY.size); clear j
      have hAp := hAp'
      clear hAp'
      refine hK.out _ _ (BkS.of hB) (fun hHeld => ?_)
      clear hK K
      try simp only [Act.put, List.getElem_toArray, List.getElem_cons_zero, List.getElem_cons_succ, List.setIfInBounds_toArray, List.set_cons_zero, List.set_cons_succ]
      obtain ⟨Y, rfl⟩ : ∃ Y : World, Y = Z := ⟨_, rfl⟩
      refine wpAnyH_ready (rs := [10]) (by kernel_rfl) (by simp) ?_
      refine AllReadyH.cons rfl (fun K hK => ?_) AllReadyH.nil
      rw [if_pos (by rfl)]
      refine wp_append_full _ _ 116 rfl Tryz.underlying116 infoAsk g3 2 (askListP (getAsks pi pw t)) rfl rfl hL3 ga (la.length + 1) ca (askListP la ++ askListP (opAsk po s t)) rfl (by rw [List.length_append, askListP_len, askListP_len]; simp [opAsk]; omega) hAp (by omega) (by unfold maxLen; omega) (by omega) ?_
      intro gz cz Z hgz j hAz'
      clear hgz
      replace h := h.step j; replace hB := hB.below j hB.lt; replace hP := hP.below j hP.lt; replace hR := hR.below j hR.lt; replace hLa := hLa.below j (Nat.le_refl _); replace hAns := hAns.step j
      (try replace hI := hI.below j hI.lt); (try replace hW := hW.below j hW.lt); (try replace hO := hO.below j hO.lt); (try replace hL3 := hL3.below j (Nat.le_refl _)); (try replace hL1 := hL1.below j (Nat.le_refl _)); (try replace hAp := hAp.below j (Nat.le_refl _))
      replace kY := kY.trans (j.mono kY.size); clear j
      have hAz := hAz'
      clear hAz'
      rw [← askListP_append, ← askListP_append] at hAz
      have hrow := Lib.hid (askRow_cells hAz)
      have hans := Lib.hid ((getAsk_ans h hI hW).append (hAns.append (opAsk_ans h hO)))
      clear hAz hAp hL1 hL3
      refine hK.out _ _ (BkS.of hB) (fun hHeld => ?_)
      clear hK K
      try simp only [Act.put, List.getElem_toArray, List.getElem_cons_zero, List.getElem_cons_succ, List.setIfInBounds_toArray, List.set_cons_zero, List.set_cons_succ]
      obtain ⟨Y, rfl⟩ : ∃ Y : World, Y = Z := ⟨_, rfl⟩
      refine wpAnyH_ready (rs := [11]) (by kernel_rfl) (by simp) ?_
      refine AllReadyH.cons rfl (fun K hK => ?_) AllReadyH.nil
      go_simp
      refine (asked_okM Y gz (2 + (la.length + 1)) cz _ (by simp [getAsks, opAsk]; omega) (by simp [getAsks, opAsk]; omega) hrow hans).mono ?_; rintro e Z ⟨rfl, j⟩
      rw [getE_eq]
      clear hrow hans
      replace h := h.step j; replace hB := hB.below j hB.lt; replace hP := hP.below j hP.lt; replace hR := hR.below j hR.lt; replace hLa := hLa.below j (Nat.le_refl _); replace hAns := hAns.step j
      (try replace hI := hI.below j hI.lt); (try replace hW := hW.below j hW.lt); (try replace hO := hO.below j hO.lt); (try replace hL3 := hL3.below j (Nat.le_refl _)); (try replace hL1 := hL1.below j (Nat.le_refl _)); (try replace hAp := hAp.below j (Nat.le_refl _))
      replace kY := kY.trans (j.mono kY.size); clear j
      go_wp2_with fail
      refine hK.out _ _ (BkS.of hB) (fun hHeld => ?_)
      clear hK K
      try simp only [Act.put, List.getElem_toArray, List.getElem_cons_zero, List.getElem_cons_succ, List.setIfInBounds_toArray, List.set_cons_zero, List.set_cons_succ]
      refine wpAnyH_take (i := 12) (v := ?_) rfl (by kernel_rfl) (by kernel_rfl) (by kernel_rfl) (fun _ _ _ h => h) (Or.inl ⟨by rfl, ?_⟩) (by assumption) ?_
      rotate_left
      · (intro Y hSw; (try dsimp only at hSw); obtain ⟨hS0, hS1⟩ := hSw; go_simp; try with_reducible rfl)
      try simp only [Act.put, List.getElem_toArray, List.getElem_cons_zero, List.getElem_cons_succ, List.setIfInBounds_toArray, List.set_cons_zero, List.set_cons_succ]
      refine wpAnyH_done (by kernel_rfl) ?_ _
      rw [onlyN_normal]
      obtain ⟨q, hq⟩ : ∃ q, gtE s t la = q := ⟨_, rfl⟩
      rw [hq] at hE ⊢
      have HQ := Lib.hid hq
      have hq1 : (q == 0) = false := by simpa using hE
      clear hq
      have c0 := hR.cell 0 (v := .int .i64 0) rfl
      have c1 := hR.cell 1 (v := .int .i64 0) rfl
      have c2 := hR.cell 2 (v := .int .u32 0) rfl
      have g0 := hR.frozen 0
      have g1 := hR.frozen 1
      have g2 := hR.frozen 2
      have zl := hR.lt
      go_wp2_with fail
      refine ret_r2 Tryz.results51 b10 (by rfl) (hR.set3 (.int .i64 0) (.int .i64 0) (.int .u32 0)) rfl rfl ⟨by rw [HQ.out]; rfl, ((kY.setCell hb10 _).setCell hb10 _).setCell hb10 _⟩
    · go_simp
      obtain ⟨g1, hg1⟩ : ∃ g, Y.heap.size = g := ⟨_, rfl⟩
      obtain ⟨Z, hZ⟩ : ∃ Z, Y.alloc (.cells (askListP (opAsk po s t)).toArray 70) = Z := ⟨_, rfl⟩
      have j : Below Y.heap.size Y Z := by rw [← hZ]; exact (Below.refl _ Y).alloc (Nat.le_refl _) _
      have hL1' : CellsAt Z g1 (askListP (opAsk po s t)) := by rw [← hZ, ← hg1]; exact CellsAt.of (Blk.new Y _ _)
      rw [show Y.alloc (.cells #[.func (.func 175) #[] #[.pointer (some ⟨po, 0, none⟩)], .int .i64 5] 70) = Z from hZ, hg1]
      clear hZ hg1
      replace h := h.step j; replace hB := hB.below j hB.lt; replace hP := hP.below j hP.lt; replace hR := hR.below j hR.lt; replace hLa := hLa.below j (Nat.le_refl _); replace hAns := hAns.step j
      (try replace hI := hI.below j hI.lt); (try replace hW := hW.below j hW.lt); (try replace hO := hO.below j hO.lt); (try replace hL3 := hL3.below j (Nat.le_refl _)); (try replace hL1 := hL1.below j (Nat.le_refl _)); (try replace hAp := hAp.below j (Nat.le_refl _))
      replace kY := kY.trans (j.mono kY.size); clear j
      have hL1 := hL1'
      clear hL1'
      refine hK.out _ _ (BkS.of hB) (fun hHeld => ?_)
      clear hK K
      try simp only [Act.put, List.getElem_toArray, List.getElem_cons_zero, List.getElem_cons_succ, List.setIfInBounds_toArray, List.set_cons_zero, List.set_cons_succ]
      obtain ⟨Y, rfl⟩ : ∃ Y : World, Y = Z := ⟨_, rfl⟩
      refine wpAnyH_ready (rs := [4, 9]) (by kernel_rfl) (by simp) ?_
      refine AllReadyH.cons rfl (fun K hK => ?_) (AllReadyH.cons rfl (fun K hK => ?_) AllReadyH.nil)
      · go_simp
        obtain ⟨g3, hg3⟩ : ∃ g, Y.heap.size = g := ⟨_, rfl⟩
        obtain ⟨Z, hZ⟩ : ∃ Z, Y.alloc (.cells (askListP (getAsks pi pw t)).toArray 70) = Z := ⟨_, rfl⟩
        have j : Below Y.heap.size Y Z := by rw [← hZ]; exact (Below.refl _ Y).alloc (Nat.le_refl _) _
        have hL3' : CellsAt Z g3 (askListP (getAsks pi pw t)) := by rw [← hZ, ← hg3]; exact CellsAt.of (Blk.new Y _ _)
        rw [show Y.alloc (.cells #[.func (.func 85) #[] #[.pointer (some ⟨pi, 0, none⟩)], .int .i64 1, .func (.func 62) #[] #[.pointer (some ⟨pw, 0, none⟩)], .int .i64 2] 70) = Z from hZ, hg3]
        clear hZ hg3
        replace h := h.step j; replace hB := hB.below j hB.lt; replace hP := hP.below j hP.lt; replace hR := hR.below j hR.lt; replace hLa := hLa.below j (Nat.le_refl _); replace hAns := hAns.step j
        (try replace hI := hI.below j hI.lt); (try replace hW := hW.below j hW.lt); (try replace hO := hO.below j hO.lt); (try replace hL3 := hL3.below j (Nat.le_refl _)); (try replace hL1 := hL1.below j (Nat.le_refl _)); (try replace hAp := hAp.below j (Nat.le_refl _))
        replace kY := kY.trans (j.mono kY.size); clear j
        have hL3 := hL3'
        clear hL3'
        refine hK.out _ _ (BkS.of hB) (fun hHeld => ?_)
        clear hK K
        try simp only [Act.put, List.getElem_toArray, List.getElem_cons_zero, List.getElem_cons_succ, List.setIfInBounds_toArray, List.set_cons_zero, List.set_cons_succ]
        obtain ⟨Y, rfl⟩ : ∃ Y : World, Y = Z := ⟨_, rfl⟩
        refine wpAnyH_ready (rs := [9]) (by kernel_rfl) (by simp) ?_
        refine AllReadyH.cons rfl (fun K hK => ?_) AllReadyH.nil
        rw [if_pos (by rfl)]
        refine wp_append_full _ _ 116 rfl Tryz.underlying116 infoAsk lb la.length (askListP la) rfl (askListP_len la) hLa g1 1 1 (askListP (opAsk po s t)) rfl rfl hL1 (by omega) (by unfold maxLen; omega) (by omega) ?_
        intro ga ca Z hga j hAp'
        clear hga
        replace h := h.step j; replace hB := hB.below j hB.lt; replace hP := hP.below j hP.lt; replace hR := hR.below j hR.lt; replace hLa := hLa.below j (Nat.le_refl _); replace hAns := hAns.step j
        (try replace hI := hI.below j hI.lt); (try replace hW := hW.below j hW.lt); (try replace hO := hO.below j hO.lt); (try replace hL3 := hL3.below j (Nat.le_refl _)); (try replace hL1 := hL1.below j (Nat.le_refl _)); (try replace hAp := hAp.below j (Nat.le_refl _))
        replace kY := kY.trans (j.mono kY.size); clear j
        have hAp := hAp'
        clear hAp'
        refine hK.out _ _ (BkS.of hB) (fun hHeld => ?_)
        clear hK K
        try simp only [Act.put, List.getElem_toArray, List.getElem_cons_zero, List.getElem_cons_succ, List.setIfInBounds_toArray, List.set_cons_zero, List.set_cons_succ]
        obtain ⟨Y, rfl⟩ : ∃ Y : World, Y = Z := ⟨_, rfl⟩
        refine wpAnyH_ready (rs := [10]) (by kernel_rfl) (by simp) ?_
        refine AllReadyH.cons rfl (fun K hK => ?_) AllReadyH.nil
        rw [if_pos (by rfl)]
        refine wp_append_full _ _ 116 rfl Tryz.underlying116 infoAsk g3 2 (askListP (getAsks pi pw t)) rfl rfl hL3 ga (la.length + 1) ca (askListP la ++ askListP (opAsk po s t)) rfl (by rw [List.length_append, askListP_len, askListP_len]; simp [opAsk]; omega) hAp (by omega) (by unfold maxLen; omega) (by omega) ?_
        intro gz cz Z hgz j hAz'
        clear hgz
        replace h := h.step j; replace hB := hB.below j hB.lt; replace hP := hP.below j hP.lt; replace hR := hR.below j hR.lt; replace hLa := hLa.below j (Nat.le_refl _); replace hAns := hAns.step j
        (try replace hI := hI.below j hI.lt); (try replace hW := hW.below j hW.lt); (try replace hO := hO.below j hO.lt); (try replace hL3 := hL3.below j (Nat.le_refl _)); (try replace hL1 := hL1.below j (Nat.le_refl _)); (try replace hAp := hAp.below j (Nat.le_refl _))
        replace kY := kY.trans (j.mono kY.size); clear j
        have hAz := hAz'
        clear hAz'
        rw [← askListP_append, ← askListP_append] at hAz
        have hrow := Lib.hid (askRow_cells hAz)
        have hans := Lib.hid ((getAsk_ans h hI hW).append (hAns.append (opAsk_ans h hO)))
        clear hAz hAp hL1 hL3
        refine hK.out _ _ (BkS.of hB) (fun hHeld => ?_)
        clear hK K
        try simp only [Act.put, List.getElem_toArray, List.getElem_cons_zero, List.getElem_cons_succ, List.setIfInBounds_toArray, List.set_cons_zero, List.set_cons_succ]
        obtain ⟨Y, rfl⟩ : ∃ Y : World, Y = Z := ⟨_, rfl⟩
        refine wpAnyH_ready (rs := [11]) (by kernel_rfl) (by simp) ?_
        refine AllReadyH.cons rfl (fun K hK => ?_) AllReadyH.nil
        go_simp
        refine (asked_okM Y gz (2 + (la.length + 1)) cz _ (by simp [getAsks, opAsk]; omega) (by simp [getAsks, opAsk]; omega) hrow hans).mono ?_; rintro e Z ⟨rfl, j⟩
        rw [getE_eq]
        clear hrow hans
        replace h := h.step j; replace hB := hB.below j hB.lt; replace hP := hP.below j hP.lt; replace hR := hR.below j hR.lt; replace hLa := hLa.below j (Nat.le_refl _); replace hAns := hAns.step j
        (try replace hI := hI.below j hI.lt); (try replace hW := hW.below j hW.lt); (try replace hO := hO.below j hO.lt); (try replace hL3 := hL3.below j (Nat.le_refl _)); (try replace hL1 := hL1.below j (Nat.le_refl _)); (try replace hAp := hAp.below j (Nat.le_refl _))
        replace kY := kY.trans (j.mono kY.size); clear j
        go_wp2_with fail
        refine hK.out _ _ (BkS.of hB) (fun hHeld => ?_)
        clear hK K
        try simp only [Act.put, List.getElem_toArray, List.getElem_cons_zero, List.getElem_cons_succ, List.setIfInBounds_toArray, List.set_cons_zero, List.set_cons_succ]
        refine wpAnyH_take (i := 12) (v := ?_) rfl (by kernel_rfl) (by kernel_rfl) (by kernel_rfl) (fun _ _ _ h => h) (Or.inl ⟨by rfl, ?_⟩) (by assumption) ?_
        rotate_left
        · (intro Y hSw; (try dsimp only at hSw); obtain ⟨hS0, hS1⟩ := hSw; go_simp; try with_reducible rfl)
        try simp only [Act.put, List.getElem_toArray, List.getElem_cons_zero, List.getElem_cons_succ, List.setIfInBounds_toArray, List.set_cons_zero, List.set_cons_succ]
        refine wpAnyH_done (by kernel_rfl) ?_ _
        rw [onlyN_normal]
        obtain ⟨q, hq⟩ : ∃ q, gtE s t la = q := ⟨_, rfl⟩
        rw [hq] at hE ⊢
        have HQ := Lib.hid hq
        have hq1 : (q == 0) = false := by simpa using hE
        clear hq
        have c0 := hR.cell 0 (v := .int .i64 0) rfl
        have c1 := hR.cell 1 (v := .int .i64 0) rfl
        have c2 := hR.cell 2 (v := .int .u32 0) rfl
        have g0 := hR.frozen 0
        have g1 := hR.frozen 1
        have g2 := hR.frozen 2
        have zl := hR.lt
        go_wp2_with fail
        refine ret_r2 Tryz.results51 b10 (by rfl) (hR.set3 (.int .i64 0) (.int .i64 0) (.int .u32 0)) rfl rfl ⟨by rw [HQ.out]; rfl, ((kY.setCell hb10 _).setCell hb10 _).setCell hb10 _⟩
      · rw [if_pos (by rfl)]
        refine wp_append_full _ _ 116 rfl Tryz.underlying116 infoAsk lb la.length (askListP la) rfl (askListP_len la) hLa g1 1 1 (askListP (opAsk po s t)) rfl rfl hL1 (by omega) (by unfold maxLen; omega) (by omega) ?_
        intro ga ca Z hga j hAp'
        clear hga
        replace h := h.step j; replace hB := hB.below j hB.lt; replace hP := hP.below j hP.lt; replace hR := hR.below j hR.lt; replace hLa := hLa.below j (Nat.le_refl _); replace hAns := hAns.step j
        (try replace hI := hI.below j hI.lt); (try replace hW := hW.below j hW.lt); (try replace hO := hO.below j hO.lt); (try replace hL3 := hL3.below j (Nat.le_refl _)); (try replace hL1 := hL1.below j (Nat.le_refl _)); (try replace hAp := hAp.below j (Nat.le_refl _))
        replace kY := kY.trans (j.mono kY.size); clear j
        have hAp := hAp'
        clear hAp'
        refine hK.out _ _ (BkS.of hB) (fun hHeld => ?_)
        clear hK K
        try simp only [Act.put, List.getElem_toArray, List.getElem_cons_zero, List.getElem_cons_succ, List.setIfInBounds_toArray, List.set_cons_zero, List.set_cons_succ]
        obtain ⟨Y, rfl⟩ : ∃ Y : World, Y = Z := ⟨_, rfl⟩
        refine wpAnyH_ready (rs := [4]) (by kernel_rfl) (by simp) ?_
        refine AllReadyH.cons rfl (fun K hK => ?_) AllReadyH.nil
        go_simp
        obtain ⟨g3, hg3⟩ : ∃ g, Y.heap.size = g := ⟨_, rfl⟩
        obtain ⟨Z, hZ⟩ : ∃ Z, Y.alloc (.cells (askListP (getAsks pi pw t)).toArray 70) = Z := ⟨_, rfl⟩
        have j : Below Y.heap.size Y Z := by rw [← hZ]; exact (Below.refl _ Y).alloc (Nat.le_refl _) _
        have hL3' : CellsAt Z g3 (askListP (getAsks pi pw t)) := by rw [← hZ, ← hg3]; exact CellsAt.of (Blk.new Y _ _)
        rw [show Y.alloc (.cells #[.func (.func 85) #[] #[.pointer (some ⟨pi, 0, none⟩)], .int .i64 1, .func (.func 62) #[] #[.pointer (some ⟨pw, 0, none⟩)], .int .i64 2] 70) = Z from hZ, hg3]
        clear hZ hg3
        replace h := h.step j; replace hB := hB.below j hB.lt; replace hP := hP.below j hP.lt; replace hR := hR.below j hR.lt; replace hLa := hLa.below j (Nat.le_refl _); replace hAns := hAns.step j
        (try replace hI := hI.below j hI.lt); (try replace hW := hW.below j hW.lt); (try replace hO := hO.below j hO.lt); (try replace hL3 := hL3.below j (Nat.le_refl _)); (try replace hL1 := hL1.below j (Nat.le_refl _)); (try replace hAp := hAp.below j (Nat.le_refl _))
        replace kY := kY.trans (j.mono kY.size); clear j
        have hL3 := hL3'
        clear hL3'
        refine hK.out _ _ (BkS.of hB) (fun hHeld => ?_)
        clear hK K
        try simp only [Act.put, List.getElem_toArray, List.getElem_cons_zero, List.getElem_cons_succ, List.setIfInBounds_toArray, List.set_cons_zero, List.set_cons_succ]
        obtain ⟨Y, rfl⟩ : ∃ Y : World, Y = Z := ⟨_, rfl⟩
        refine wpAnyH_ready (rs := [10]) (by kernel_rfl) (by simp) ?_
        refine AllReadyH.cons rfl (fun K hK => ?_) AllReadyH.nil
        rw [if_pos (by rfl)]
        refine wp_append_full _ _ 116 rfl Tryz.underlying116 infoAsk g3 2 (askListP (getAsks pi pw t)) rfl rfl hL3 ga (la.length + 1) ca (askListP la ++ askListP (opAsk po s t)) rfl (by rw [List.length_append, askListP_len, askListP_len]; simp [opAsk]; omega) hAp (by omega) (by unfold maxLen; omega) (by omega) ?_
        intro gz cz Z hgz j hAz'
        clear hgz
        replace h := h.step j; replace hB := hB.below j hB.lt; replace hP := hP.below j hP.lt; replace hR := hR.below j hR.lt; replace hLa := hLa.below j (Nat.le_refl _); replace hAns := hAns.step j
        (try replace hI := hI.below j hI.lt); (try replace hW := hW.below j hW.lt); (try replace hO := hO.below j hO.lt); (try replace hL3 := hL3.below j (Nat.le_refl _)); (try replace hL1 := hL1.below j (Nat.le_refl _)); (try replace hAp := hAp.below j (Nat.le_refl _))
        replace kY := kY.trans (j.mono kY.size); clear j
        have hAz := hAz'
        clear hAz'
        rw [← askListP_append, ← askListP_append] at hAz
        have hrow := Lib.hid (askRow_cells hAz)
        have hans := Lib.hid ((getAsk_ans h hI hW).append (hAns.append (opAsk_ans h hO)))
        clear hAz hAp hL1 hL3
        refine hK.out _ _ (BkS.of hB) (fun hHeld => ?_)
        clear hK K
        try simp only [Act.put, List.getElem_toArray, List.getElem_cons_zero, List.getElem_cons_succ, List.setIfInBounds_toArray, List.set_cons_zero, List.set_cons_succ]
        obtain ⟨Y, rfl⟩ : ∃ Y : World, Y = Z := ⟨_, rfl⟩
        refine wpAnyH_ready (rs := [11]) (by kernel_rfl) (by simp) ?_
        refine AllReadyH.cons rfl (fun K hK => ?_) AllReadyH.nil
        go_simp
        refine (asked_okM Y gz (2 + (la.length + 1)) cz _ (by simp [getAsks, opAsk]; omega) (by simp [getAsks, opAsk]; omega) hrow hans).mono ?_; rintro e Z ⟨rfl, j⟩
        rw [getE_eq]
        clear hrow hans
        replace h := h.step j; replace hB := hB.below j hB.lt; replace hP := hP.below j hP.lt; replace hR := hR.below j hR.lt; replace hLa := hLa.below j (Nat.le_refl _); replace hAns := hAns.step j
        (try replace hI := hI.below j hI.lt); (try replace hW := hW.below j hW.lt); (try replace hO := hO.below j hO.lt); (try replace hL3 := hL3.below j (Nat.le_refl _)); (try replace hL1 := hL1.below j (Nat.le_refl _)); (try replace hAp := hAp.below j (Nat.le_refl _))
        replace kY := kY.trans (j.mono kY.size); clear j
        go_wp2_with fail
        refine hK.out _ _ (BkS.of hB) (fun hHeld => ?_)
        clear hK K
        try simp only [Act.put, List.getElem_toArray, List.getElem_cons_zero, List.getElem_cons_succ, List.setIfInBounds_toArray, List.set_cons_zero, List.set_cons_succ]
        refine wpAnyH_take (i := 12) (v := ?_) rfl (by kernel_rfl) (by kernel_rfl) (by kernel_rfl) (fun _ _ _ h => h) (Or.inl ⟨by rfl, ?_⟩) (by assumption) ?_
        rotate_left
        · (intro Y hSw; (try dsimp only at hSw); obtain ⟨hS0, hS1⟩ := hSw; go_simp; try with_reducible rfl)
        try simp only [Act.put, List.getElem_toArray, List.getElem_cons_zero, List.getElem_cons_succ, List.setIfInBounds_toArray, List.set_cons_zero, List.set_cons_succ]
        refine wpAnyH_done (by kernel_rfl) ?_ _
        rw [onlyN_normal]
        obtain ⟨q, hq⟩ : ∃ q, gtE s t la = q := ⟨_, rfl⟩
        rw [hq] at hE ⊢
        have HQ := Lib.hid hq
        have hq1 : (q == 0) = false := by simpa using hE
        clear hq
        have c0 := hR.cell 0 (v := .int .i64 0) rfl
        have c1 := hR.cell 1 (v := .int .i64 0) rfl
        have c2 := hR.cell 2 (v := .int .u32 0) rfl
        have g0 := hR.frozen 0
        have g1 := hR.frozen 1
        have g2 := hR.frozen 2
        have zl := hR.lt
        go_wp2_with fail
        refine ret_r2 Tryz.results51 b10 (by rfl) (hR.set3 (.int .i64 0) (.int .i64 0) (.int .u32 0)) rfl rfl ⟨by rw [HQ.out]; rfl, ((kY.setCell hb10 _).setCell hb10 _).setCell hb10 _⟩
end Go.Proofs.YtlpchcdalfkfcaaGreat
