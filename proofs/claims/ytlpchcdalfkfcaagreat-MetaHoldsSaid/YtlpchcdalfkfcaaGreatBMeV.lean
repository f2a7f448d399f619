/-
 Package meta: the questions of opening a book. Conditions: a memory's books in order.
-/
import Derived.Test.YtlpchcdalfkfcaaGreatBMeY
namespace Go.Proofs.YtlpchcdalfkfcaaGreat
open Go.RowKit Go.ChangeShapes
attribute [local go_sem] Oper.semAt_some
set_option maxHeartbeats 8000000
set_option maxRecDepth 8000

variable {w0 w W : World} {k : Mb} {s : Ms}
theorem mopn11_calls (h : LivM w0 W k s) {t n : Int} {p : Nat} (hb : Blk W p #[.pointer (some ⟨k.b, 0, none⟩), .int .i64 t] 72) : Calls Tryz.prog 42 #[.int .i64 n, .pointer (some ⟨p, 0, none⟩)] W fun e W' => e = .returned (.bool (hasR s.D n)) ∧ Below W.heap.size W W' := by
 have c0 : W.cell? ⟨p, 0, none⟩ = some (.pointer (some ⟨k.b, 0, none⟩)) := hb.cell 0 rfl
 clear hb
 go_enter Tryz.func42, Tryz.ntmps42
 go_wp2_with fail
 refine (h.get n).mono ?_; rintro e W1 ⟨rfl, j⟩
 obtain ⟨x, hx⟩ : ∃ x, getE s.D n = x := ⟨_, rfl⟩
 rw [hx]
 unfold encE
 clear hx
 go_wp2_with fail
 go_ret
 exact ⟨rfl, j.alloc j.size _⟩
def mapdB (s : Ms) (t : Int) : Bool := (pgL t 48).any fun n => hasR s.D n
theorem mopn1_calls (h : LivM w0 W k s) {t : Int} {p : Nat} (hb : Blk W p #[.pointer (some ⟨k.b, 0, none⟩), .int .i64 t] 72) : Calls Tryz.prog 39 #[.pointer (some ⟨p, 0, none⟩)] W fun e W' => e = .returned (.bool (mapdB s t)) ∧ Below W.heap.size W W' := by
 have c0 : W.cell? ⟨p, 0, none⟩ = some (.pointer (some ⟨k.b, 0, none⟩)) := hb.cell 0 rfl
 have c1 : W.cell? ⟨p, 1, none⟩ = some (.int .i64 t) := hb.cell 1 rfl
 go_enter Tryz.func39, Tryz.ntmps39
 go_wp2_with fail
 refine (mpages_calls _ t W).mono ?_; rintro e W1 ⟨rfl, j⟩
 replace h := h.step j
 have hb1 := hb.below j hb.lt
 clear c0 c1 hb
 obtain ⟨Z, hZe⟩ : ∃ Z, W1.alloc (.cells #[.int .i64 0, .int .i64 0, .int .i64 0, .int .i64 0, .int .i64 0, .int .i64 0, .int .i64 0, .int .i64 0, .int .i64 0, .int .i64 0, .int .i64 0, .int .i64 0, .int .i64 0, .int .i64 0, .int .i64 0, .int .i64 0, .int .i64 0, .int .i64 0, .int .i64 0, .int .i64 0, .int .i64 0, .int .i64 0, .int .i64 0, .int .i64 0, .int .i64 0, .int .i64 0, .int .i64 0, .int .i64 0, .int .i64 0, .int .i64 0, .int .i64 0, .int .i64 0, .int .i64 0, .int .i64 0, .int .i64 0, .int .i64 0, .int .i64 0, .int .i64 0, .int .i64 0, .int .i64 0, .int .i64 0, .int .i64 0, .int .i64 0, .int .i64 0, .int .i64 0, .int .i64 0, .int .i64 0, .int .i64 0] 91) = Z := ⟨_, rfl⟩
 have hlit : (#[.int .i64 0, .int .i64 0, .int .i64 0, .int .i64 0, .int .i64 0, .int .i64 0, .int .i64 0, .int .i64 0, .int .i64 0, .int .i64 0, .int .i64 0, .int .i64 0, .int .i64 0, .int .i64 0, .int .i64 0, .int .i64 0, .int .i64 0, .int .i64 0, .int .i64 0, .int .i64 0, .int .i64 0, .int .i64 0, .int .i64 0, .int .i64 0, .int .i64 0, .int .i64 0, .int .i64 0, .int .i64 0, .int .i64 0, .int .i64 0, .int .i64 0, .int .i64 0, .int .i64 0, .int .i64 0, .int .i64 0, .int .i64 0, .int .i64 0, .int .i64 0, .int .i64 0, .int .i64 0, .int .i64 0, .int .i64 0, .int .i64 0, .int .i64 0, .int .i64 0, .int .i64 0, .int .i64 0, .int .i64 0] : Array Value) = pgA t 0 := by rw [pgA_zero]; rfl
 obtain ⟨g, hg⟩ : ∃ g, W1.heap.size = g := ⟨_, rfl⟩
 have hZ : Blk Z g (pgA t 0) 91 := by rw [← hZe, hlit, ← hg]; exact Blk.new W1 _ _
 have jz : Below W1.heap.size W1 Z := by rw [← hZe]; exact (Below.refl _ W1).alloc (Nat.le_refl _) _
 have hbZ := hb1.below jz hb1.lt
 have hne : p < g := by rw [← hg]; exact hb1.lt
 have hgz := hZ.lt
 clear hlit
 have HZ := Lib.hid hZ
 have HBZ := Lib.hid hbZ
 have HJ := Lib.hid jz
 clear hZ hbZ jz
 go_wp2_with (refine wpList_storeBH ty48 rfl _ _ rfl g (pgA t 48) rfl rfl HZ.out (pgA_size t 0) (pgA_size t 48) (pgA_one t 48) ?_)
 intro W2 hW2
 have hA2 := HZ.out.whole (pgA t 48) (by rw [pgA_size, pgA_size])
 have hb2 := HBZ.out.setCellsO (pgA t 48).toList 0 (g := g) (by omega)
 have j2 : Below W1.heap.size W1 (Z.setCells g 0 (pgA t 48).toList) := bel_setCells HJ.out (Nat.le_of_eq hg) _ _
 rw [hW2.out] at hA2 hb2 j2
 clear hZe hgz hW2 HZ HBZ HJ
 have h2 := h.step j2
 have k2 := j.trans (j2.mono j.size)
 clear hg j2 j
 have HX : IdxP W2 g 42 #[.pointer (some ⟨p, 0, none⟩)] (fun n => hasR s.D n) (pgL t 48) := by
  refine ⟨enters_of Tryz.func42 (by kernel_rfl) rfl, fun m _ W hW => mopn11_calls (h2.step hW) (hb2.below hW hb2.lt), fun i hi => ?_, hA2.lt⟩
  refine hA2.cell i ?_
  unfold pgA
  rw [List.getElem?_toArray]
  exact intVals_get .i64 _ i hi
 have HH := Lib.hid HX
 clear HX
 try dsimp only [Act.put]
 go_wp2_with fail
 refine (contains_genM W2 g 48 48 _ _ _ (pgL t 48) (pgL_len t 48).symm (by rw [pgL_len]; omega) HH).mono ?_; rintro e W3 ⟨rfl, j3⟩
 have HM := Lib.hid (show mapdB s t = (pgL t 48).any fun n => hasR s.D n from rfl)
 go_wp2_with fail
 go_ret
 exact ⟨by rw [HM.out]; rfl, k2.trans (j3.mono k2.size)⟩
theorem mopn2_calls {n : Int} {p : Nat} (hb : Blk W p #[.int .i64 n] 3) : Calls Tryz.prog 45 #[.pointer (some ⟨p, 0, none⟩)] W fun e W' => e = .returned (.bool (!inB 63 n)) ∧ Below W.heap.size W W' := by
 have c0 : W.cell? ⟨p, 0, none⟩ = some (.int .i64 n) := hb.cell 0 rfl
 clear hb
 go_enter Tryz.func45, Tryz.ntmps45
 go_wp2_with fail
 refine (mfits_one 63 n W).mono ?_; rintro e w1 ⟨rfl, k⟩
 go_wp2_with fail
 go_ret
 exact ⟨rfl, k⟩
theorem mopn3_calls (h : LivM w0 W k s) {t n : Int} {p q : Nat} (hb : Blk W p #[.pointer (some ⟨k.b, 0, none⟩), .int .i64 t] 72) (hq : Blk W q #[.int .i64 n] 3) : Calls Tryz.prog 47 #[.pointer (some ⟨p, 0, none⟩), .pointer (some ⟨q, 0, none⟩)] W fun e W' => e = .returned (.bool (decide (leftI s n < 48))) ∧ Below W.heap.size W W' := by
 have c0 : W.cell? ⟨p, 0, none⟩ = some (.pointer (some ⟨k.b, 0, none⟩)) := hb.cell 0 rfl
 have d0 : W.cell? ⟨q, 0, none⟩ = some (.int .i64 n) := hq.cell 0 rfl
 clear hb hq
 go_enter Tryz.func47, Tryz.ntmps47
 go_wp2_with fail
 refine (h.left n).mono ?_; rintro e W1 ⟨rfl, j⟩
 obtain ⟨x, hx⟩ : ∃ x, leftI s n = x := ⟨_, rfl⟩
 have HX := Lib.hid hx
 rw [hx]
 clear hx
 go_wp2_with fail
 go_ret
 exact ⟨by rw [HX.out]; rfl, j⟩
def opnAsks (pi pw pp pb : Nat) (s : Ms) (t n : Int) : List AskP :=
 [⟨85, #[], #[.pointer (some ⟨pi, 0, none⟩)], 1, false⟩, ⟨62, #[], #[.pointer (some ⟨pw, 0, none⟩)], 2, !inB 3 t⟩, ⟨45, #[], #[.pointer (some ⟨pp, 0, none⟩)], 2, !inB 63 n⟩,
  ⟨39, #[], #[.pointer (some ⟨pb, 0, none⟩)], 180, mapdB s t⟩, ⟨47, #[], #[.pointer (some ⟨pb, 0, none⟩), .pointer (some ⟨pp, 0, none⟩)], 171, decide (leftI s n < 48)⟩]
def opnE (s : Ms) (t n : Int) : Int := if inB 3 t = false then 2 else if inB 63 n = false then 2 else if mapdB s t = true then 180 else if leftI s n < 48 then 171 else 0
theorem opnAsks_eq (pi pw pp pb : Nat) (s : Ms) (t n : Int) : firstErrP (opnAsks pi pw pp pb s t n) = opnE s t n := by
 unfold opnAsks opnE
 by_cases hl : leftI s n < 48 <;> cases inB 3 t <;> cases inB 63 n <;> cases mapdB s t <;> simp [firstErrP, hl]
theorem opn_answers (h : LivM w0 W k s) {pi pw pp pb : Nat} {t n : Int} (hI : Blk W pi #[.pointer (some ⟨k.b, 0, none⟩), .int .i64 t] 72) (hW : Blk W pw #[.pointer (some ⟨k.b, 0, none⟩), .int .i64 t] 72)
  (hB : Blk W pb #[.pointer (some ⟨k.b, 0, none⟩), .int .i64 t] 72) (hP : Blk W pp #[.int .i64 n] 3) : AnswersP W (opnAsks pi pw pp pb s t n) := by
 constructor
 ·intro i hi args W
  match i, hi with
  | 0, _ => exact enters_of Tryz.func85 (by kernel_rfl) rfl args W
  | 1, _ => exact enters_of Tryz.func62 (by kernel_rfl) rfl args W
  | 2, _ => exact enters_of Tryz.func45 (by kernel_rfl) rfl args W
  | 3, _ => exact enters_of Tryz.func39 (by kernel_rfl) rfl args W
  | 4, _ => exact enters_of Tryz.func47 (by kernel_rfl) rfl args W
 ·intro i hi X _ kx
  match i, hi with
  | 0, _ => exact mis1_calls (h.step kx) (hI.below kx hI.lt)
  | 1, _ => exact mwho1_calls (hW.below kx hW.lt)
  | 2, _ => exact mopn2_calls (hP.below kx hP.lt)
  | 3, _ => exact mopn1_calls (h.step kx) (hB.below kx hB.lt)
  | 4, _ => exact mopn3_calls (h.step kx) (hB.below kx hB.lt) (hP.below kx hP.lt)
end Go.Proofs.YtlpchcdalfkfcaaGreat


/-
 Package meta: opening a book. Conditions: a memory's books in order.
-/
namespace Go.Proofs.YtlpchcdalfkfcaaGreat
open Go.RowKit Go.ChangeShapes
attribute [local go_sem] Oper.semAt_some
set_option maxHeartbeats 8000000
set_option maxRecDepth 8000

variable {w0 w : World} {k : Mb} {s : Ms}
structure OpS (b5 b7 : Nat) (m : Value) (t n : Int) (Y : World) : Prop where
 h0 : Y.cell? ⟨b7, 0, none⟩ = some m
 h1 : Y.cell? ⟨b7, 1, none⟩ = some (.int .i64 t)
theorem OpS.of {b5 b7 : Nat} {m : Value} {t n : Int} {Y : World} {ty : TypeId} (h : Blk Y b7 #[m, .int .i64 t] ty) : OpS b5 b7 m t n Y := ⟨h.cell 0 rfl, h.cell 1 rfl⟩
/-- What a book makes of a memory's books. -/
def opnF (s : Ms) (t n : Int) : Ms := if opnE s t n = 0 then mapsJ s (bkO t) (-1) n 0 48 else s
theorem mOpen_ok (h : LivM w0 w k s) (t n : Int) : Calls Tryz.prog 15 #[.pointer (some ⟨k.b, 0, none⟩), .int .i64 t, .int .i64 n] w
   fun e w' => e = .returned (.int .i64 (opnE s t n)) ∧ LivM w0 w' k (opnF s t n) ∧ ChgM k w w' := by
 obtain ⟨Y, hY⟩ : ∃ Y, (w.alloc (.cells #[.int .i64 n] 3)).alloc (.cells #[.pointer (some ⟨k.b, 0, none⟩), .int .i64 t] 72) = Y := ⟨_, rfl⟩
 have hP : Blk Y w.heap.size #[.int .i64 n] 3 := by rw [← hY]; exact (Blk.new w _ _).alloc _
 have hB : Blk Y (w.heap.size + 1) #[.pointer (some ⟨k.b, 0, none⟩), .int .i64 t] 72 := by rw [← hY]; exact Blk.newAt _ _ _ (by simp)
 have kY : Below w.heap.size w Y := by rw [← hY]; exact ((Below.refl _ w).alloc (Nat.le_refl _) _).alloc (by simp) _
 replace h := h.step kY
 have cY : ChgM k w Y := ChgM.of_below kY
 clear kY
 go_enter Tryz.func15, Tryz.ntmps15
 go_wp2_with fail
 clear hY
 obtain ⟨b7, hb7⟩ : ∃ b, w.heap.size + 1 = b := ⟨_, rfl⟩
 rw [hb7] at hB ⊢
 obtain ⟨b5, hb5⟩ : ∃ b, w.heap.size = b := ⟨_, rfl⟩
 rw [hb5] at hP ⊢
 clear hb7 hb5
 refine wp_onlyN ?_
 refine wp_region_held_drew (S := OpS b5 b7 (.pointer (some ⟨k.b, 0, none⟩)) t n) (by kernel_rfl) (OpS.of hB) (fun hHeld => ?_)
 obtain ⟨Z, hZ⟩ : ∃ Z, Y.drew = Z := ⟨_, rfl⟩
 have j : Below Y.heap.size Y Z := by rw [← hZ]; exact (Below.refl _ Y).drew
 rw [hZ] at hHeld ⊢
 clear hZ
 replace h := h.step j; replace hP := hP.below j hP.lt; replace hB := hB.below j hB.lt
 (try replace hI := hI.below j hI.lt); (try replace hW := hW.below j hW.lt)
 replace cY := cY.more j cY.size
 clear j
 obtain ⟨Y, rfl⟩ : ∃ Y : World, Y = Z := ⟨_, rfl⟩
 refine wpAnyH_take (i := 0) (v := ?_) rfl (by kernel_rfl) (by kernel_rfl) (by kernel_rfl) (fun _ _ _ h => h) (Or.inl ⟨by rfl, ?_⟩) (by assumption) ?_
 rotate_left
 ·(intro Y hSw; (try dsimp only at hSw); obtain ⟨hS0, hS1⟩ := hSw; go_simp; try with_reducible rfl)
 try simp only [Act.put, pu1, pu2, pu3, pu4, pu5, pu6]
 refine wpAnyH_take (i := 2) (v := ?_) rfl (by kernel_rfl) (by kernel_rfl) (by kernel_rfl) (fun _ _ _ h => h) (Or.inl ⟨by rfl, ?_⟩) (by assumption) ?_
 rotate_left
 ·(intro Y hSw; (try dsimp only at hSw); obtain ⟨hS0, hS1⟩ := hSw; go_simp; try with_reducible rfl)
 try simp only [Act.put, pu1, pu2, pu3, pu4, pu5, pu6]
 refine wpAnyH_take (i := 4) (v := ?_) rfl (by kernel_rfl) (by kernel_rfl) (by kernel_rfl) (fun _ _ _ h => h) (Or.inl ⟨by rfl, ?_⟩) (by assumption) ?_
 rotate_left
 ·(intro Y hSw; (try dsimp only at hSw); obtain ⟨hS0, hS1⟩ := hSw; go_simp; try with_reducible rfl)
 try simp only [Act.put, pu1, pu2, pu3, pu4, pu5, pu6]
 refine wpAnyH_take (i := 5) (v := ?_) rfl (by kernel_rfl) (by kernel_rfl) (by kernel_rfl) (fun _ _ _ h => h) (Or.inl ⟨by rfl, ?_⟩) (by assumption) ?_
 rotate_left
 ·(intro Y hSw; (try dsimp only at hSw); obtain ⟨hS0, hS1⟩ := hSw; go_simp; try with_reducible rfl)
 try simp only [Act.put, pu1, pu2, pu3, pu4, pu5, pu6]
 refine wpAnyH_take (i := 6) (v := ?_) rfl (by kernel_rfl) (by kernel_rfl) (by kernel_rfl) (fun _ _ _ h => h) (Or.inl ⟨by rfl, ?_⟩) (by assumption) ?_
 rotate_left
 ·(intro Y hSw; (try dsimp only at hSw); obtain ⟨hS0, hS1⟩ := hSw; go_simp; try with_reducible rfl)
 try simp only [Act.put, pu1, pu2, pu3, pu4, pu5, pu6]
 refine wpAnyH_take (i := 7) (v := ?_) rfl (by kernel_rfl) (by kernel_rfl) (by kernel_rfl) (fun _ _ _ h => h) (Or.inl ⟨by rfl, ?_⟩) (by assumption) ?_
 rotate_left
 ·(intro Y hSw; (try dsimp only at hSw); obtain ⟨hS0, hS1⟩ := hSw; go_simp; try with_reducible rfl)
 try simp only [Act.put, pu1, pu2, pu3, pu4, pu5, pu6]
 refine wpAnyH_take (i := 8) (v := ?_) rfl (by kernel_rfl) (by kernel_rfl) (by kernel_rfl) (fun _ _ _ h => h) (Or.inl ⟨by rfl, ?_⟩) (by assumption) ?_
 rotate_left
 ·(intro Y hSw; (try dsimp only at hSw); obtain ⟨hS0, hS1⟩ := hSw; go_simp; try with_reducible rfl)
 try simp only [Act.put, pu1, pu2, pu3, pu4, pu5, pu6]
 refine wpAnyH_take (i := 9) (v := ?_) rfl (by kernel_rfl) (by kernel_rfl) (by kernel_rfl) (fun _ _ _ h => h) (Or.inl ⟨by rfl, ?_⟩) (by assumption) ?_
 rotate_left
 ·(intro Y hSw; (try dsimp only at hSw); obtain ⟨hS0, hS1⟩ := hSw; go_simp; try with_reducible rfl)
 try simp only [Act.put, pu1, pu2, pu3, pu4, pu5, pu6]
 refine wpAnyH_ready (rs := [1]) (by kernel_rfl) (by simp) ?_
 refine AllReadyH.cons rfl (fun K hK => ?_) AllReadyH.nil
 go_simp
 refine (mis_calls _ t _).mono ?_; rintro e Z ⟨pi, rfl, hI, j⟩
 replace h := h.step j; replace hP := hP.below j hP.lt; replace hB := hB.below j hB.lt
 (try replace hI := hI.below j hI.lt); (try replace hW := hW.below j hW.lt)
 replace cY := cY.more j cY.size
 clear j
 go_wp2_with fail
 refine hK.out _ _ (OpS.of hB) (fun hHeld => ?_)
 clear hK K
 try simp only [Act.put, pu1, pu2, pu3, pu4, pu5, pu6]
 obtain ⟨Y, rfl⟩ : ∃ Y : World, Y = Z := ⟨_, rfl⟩
 refine wpAnyH_ready (rs := [3]) (by kernel_rfl) (by simp) ?_
 refine AllReadyH.cons rfl (fun K hK => ?_) AllReadyH.nil
 go_simp
 refine (mwho_calls _ t _).mono ?_; rintro e Z ⟨pw, rfl, hW, j⟩
 replace h := h.step j; replace hP := hP.below j hP.lt; replace hB := hB.below j hB.lt
 (try replace hI := hI.below j hI.lt); (try replace hW := hW.below j hW.lt)
 replace cY := cY.more j cY.size
 clear j
 go_wp2_with fail
 refine hK.out _ _ (OpS.of hB) (fun hHeld => ?_)
 clear hK K
 try simp only [Act.put, pu1, pu2, pu3, pu4, pu5, pu6]
 obtain ⟨Y, rfl⟩ : ∃ Y : World, Y = Z := ⟨_, rfl⟩
 refine wpAnyH_ready (rs := [10]) (by kernel_rfl) (by simp) ?_
 refine AllReadyH.cons rfl (fun K hK => ?_) AllReadyH.nil
 go_simp
 obtain ⟨gl, hgl⟩ : ∃ g, Y.heap.size = g := ⟨_, rfl⟩
 obtain ⟨Z, hZ⟩ : ∃ Z, Y.alloc (.cells (askListP (opnAsks pi pw b5 b7 s t n)).toArray 70) = Z := ⟨_, rfl⟩
 have j : Below Y.heap.size Y Z := by rw [← hZ]; exact (Below.refl _ Y).alloc (Nat.le_refl _) _
 have hrow : AskRowP Z gl (opnAsks pi pw b5 b7 s t n) := by rw [← hZ, ← hgl]; exact askRow_ofP (Blk.new Y _ _)
 rw [show Y.alloc (.cells #[.func (.func 85) #[] #[.pointer (some ⟨pi, 0, none⟩)], .int .i64 1, .func (.func 62) #[] #[.pointer (some ⟨pw, 0, none⟩)], .int .i64 2, .func (.func 45) #[] #[.pointer (some ⟨b5, 0, none⟩)], .int .i64 2, .func (.func 39) #[] #[.pointer (some ⟨b7, 0, none⟩)], .int .i64 180, .func (.func 47) #[] #[.pointer (some ⟨b7, 0, none⟩), .pointer (some ⟨b5, 0, none⟩)], .int .i64 171] 70) = Z from hZ, hgl]
 clear hZ hgl
 replace h := h.step j; replace hP := hP.below j hP.lt; replace hB := hB.below j hB.lt
 (try replace hI := hI.below j hI.lt); (try replace hW := hW.below j hW.lt)
 replace cY := cY.more j cY.size
 clear j
 have hans := opn_answers h hI hW hB hP
 refine hK.out _ _ (OpS.of hB) (fun hHeld => ?_)
 clear hK K
 try simp only [Act.put, pu1, pu2, pu3, pu4, pu5, pu6]
 obtain ⟨Y, rfl⟩ : ∃ Y : World, Y = Z := ⟨_, rfl⟩
 refine wpAnyH_ready (rs := [11]) (by kernel_rfl) (by simp) ?_
 refine AllReadyH.cons rfl (fun K hK => ?_) AllReadyH.nil
 go_simp
 refine (asked_okM Y gl 5 5 _ rfl (by simp [opnAsks]) (Lib.hid hrow) (Lib.hid hans)).mono ?_; rintro e Z ⟨rfl, j⟩
 rw [opnAsks_eq]
 clear hrow hans
 replace h := h.step j; replace hP := hP.below j hP.lt; replace hB := hB.below j hB.lt
 (try replace hI := hI.below j hI.lt); (try replace hW := hW.below j hW.lt)
 replace cY := cY.more j cY.size
 clear j
 go_wp2_with fail
 refine hK.out _ _ (OpS.of hB) (fun hHeld => ?_)
 clear hK K
 try simp only [Act.put, pu1, pu2, pu3, pu4, pu5, pu6]
 obtain ⟨Y, rfl⟩ : ∃ Y : World, Y = Z := ⟨_, rfl⟩
 refine wpAnyH_take (i := 12) (v := ?_) rfl (by kernel_rfl) (by kernel_rfl) (by kernel_rfl) (fun _ _ _ h => h) (Or.inl ⟨by rfl, ?_⟩) (by assumption) ?_
 rotate_left
 ·(intro Y hSw; (try dsimp only at hSw); obtain ⟨hS0, hS1⟩ := hSw; go_simp; try with_reducible rfl)
 try simp only [Act.put, pu1, pu2, pu3, pu4, pu5, pu6]
 refine wpAnyH_done (by kernel_rfl) ?_ _
 rw [onlyN_normal]
 clear hHeld hI hW
 by_cases hz : opnE s t n = 0
 ·have HF := Lib.hid (show opnF s t n = mapsJ s (bkO t) (-1) n 0 48 by unfold opnF; rw [if_pos hz])
  have HZ := Lib.hid hz
  rw [hz]
  clear hz
  have d0 := hB.cell 0 (v := .pointer (some ⟨k.b, 0, none⟩)) rfl
  have d1 := hB.cell 1 (v := .int .i64 t) rfl
  go_wp2_with fail
  refine (mpages_calls _ t Y).mono ?_; rintro e Z ⟨rfl, j⟩
  replace h := h.step j; replace hP := hP.below j hP.lt; replace hB := hB.below j hB.lt
  (try replace hI := hI.below j hI.lt); (try replace hW := hW.below j hW.lt)
  replace cY := cY.more j cY.size
  clear j
  obtain ⟨Y, rfl⟩ : ∃ Y : World, Y = Z := ⟨_, rfl⟩
  clear d0 d1
  go_wp2_with fail
  go_loopw [32] (fun i wr => ∃ j : Nat, j ≤ 48 ∧ i = .int .i64 j ∧ LivM w0 wr k (mapsJ s (bkO t) (-1) n 0 j) ∧ Blk wr b5 #[.int .i64 n] 3 ∧ Blk wr b7 #[.pointer (some ⟨k.b, 0, none⟩), .int .i64 t] 72 ∧ ChgM k w wr) (fun i _ => 48 - (intOf i).toNat)
  case atStart => exact ⟨0, by omega, rfl, h, hP, hB, cY⟩
  case round =>
   obtain ⟨j, hj, rfl, h, hP, hB, cY⟩ := hrel
   by_cases hlt : j < 48
   ·have i0 : (0 : Int) ≤ j := by omega
    have i1 : (j : Int) < 48 := by omega
    have hix := fun W => run_ix48 t j hlt W
    have d0 := hB.cell 0 (v := .pointer (some ⟨k.b, 0, none⟩)) rfl
    have e0 := hP.cell 0 (v := .int .i64 n) rfl
    go_wp2_with fail
    refine (h.map (bkO t + j) (-1) n 0).mono ?_; rintro e Z ⟨rfl, h2, c⟩
    have hP2 := c.cells h.m hP
    have hB2 := c.cells h.m hB
    have cY2 := cY.trans c
    clear d0 e0 hix
    go_wp2_with fail
    exact ⟨⟨j + 1, by omega, by go_num, h2, hP2, hB2, cY2⟩, by simp [intOf]; omega⟩
   ·obtain rfl : j = 48 := by omega
    go_wp2_with fail
    go_ret
    exact ⟨by rw [HZ.out]; rfl, by rw [HF.out]; exact h, cY⟩
 ·have HF := Lib.hid (show opnF s t n = s by unfold opnF; rw [if_neg hz])
  obtain ⟨q, hq⟩ : ∃ q, opnE s t n = q := ⟨_, rfl⟩
  have HQ := Lib.hid hq
  rw [hq] at hz ⊢
  have hz1 : (q == 0) = false := by simpa using hz
  clear hq
  go_wp2_with fail
  go_ret
  exact ⟨by rw [HQ.out]; rfl, by rw [HF.out]; exact h, cY⟩
end Go.Proofs.YtlpchcdalfkfcaaGreat

