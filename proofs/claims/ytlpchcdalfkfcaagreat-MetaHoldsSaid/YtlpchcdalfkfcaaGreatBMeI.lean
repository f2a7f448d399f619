/-
 Package meta: the questions of a book. Conditions: a memory's books in order.
-/
import Derived.Test.YtlpchcdalfkfcaaGreatBMeE
namespace Go.Proofs.YtlpchcdalfkfcaaGreat
open Go.RowKit
attribute [local go_sem] Oper.semAt_some
set_option maxHeartbeats 4000000
set_option maxRecDepth 8000

variable {w0 W : World} {k : Mb} {s : Ms}
def bkO (t : Int) : Int := if slotI t = true then 64 * t + 1 else 0
def opB (s : Ms) (t : Int) : Bool := hasR s.D (bkO t) && decide ((getE s.D (bkO t)).o = -1)
theorem mis_calls (m : Value) (t : Int) (w : World) : Calls Tryz.prog 44 #[.agg #[m, .int .i64 t]] w fun e w' => ∃ p, e = .returned (.agg #[.func (.func 85) #[] #[.pointer (some ⟨p, 0, none⟩)], .int .i64 1]) ∧
  Blk w' p #[m, .int .i64 t] 72 ∧ Below w.heap.size w w' := by
 go_enter Tryz.func44, Tryz.ntmps44
 go_wp2_with fail
 exact bodyPost_ret (v := .agg #[.func (.func 85) #[] #[.pointer (some ⟨w.heap.size, 0, none⟩)], .int .i64 1]) (by simp [results, Tryz.results44, go_sem]) rfl
  ⟨_, rfl, (Blk.new w _ _).alloc _, ((Below.refl _ w).alloc (Nat.le_refl _) _).alloc (by simp) _⟩
theorem mis1_calls (h : LivM w0 W k s) {t : Int} {p : Nat} (hb : Blk W p #[.pointer (some ⟨k.b, 0, none⟩), .int .i64 t] 72) : Calls Tryz.prog 85 #[.pointer (some ⟨p, 0, none⟩)] W fun e w' => e = .returned (.bool false) ∧ Below W.heap.size W w' := by
 have c0 : W.cell? ⟨p, 0, none⟩ = some (.pointer (some ⟨k.b, 0, none⟩)) := hb.cell 0 rfl
 clear hb
 go_enter Tryz.func85, Tryz.ntmps85
 go_wp2_with fail
 refine (h.same_nil).mono ?_; rintro e _ ⟨rfl, rfl⟩
 go_wp2_with fail
 go_ret
 exact ⟨rfl, Below.refl _ _⟩
theorem mbase_calls (m : Value) (t : Int) (w : World) : Calls Tryz.prog 82 #[.agg #[m, .int .i64 t]] w fun e w' => e = .returned (.int .i64 (bkO t)) ∧ Below w.heap.size w w' := by
 unfold bkO
 cases ht : slotI t
 ·go_enter Tryz.func82, Tryz.ntmps82
  go_wp2_with fail
  refine (Book_arg t ht _).mono ?_; rintro e w1 ⟨rfl, h1⟩
  go_wp2_with fail
  go_ret
  exact ⟨rfl, ((Below.refl _ w).alloc (Nat.le_refl _) _).trans (h1.mono (by simp))⟩
 ·go_enter Tryz.func82, Tryz.ntmps82
  go_wp2_with fail
  refine (Book_ok t ht _).mono ?_; rintro e w1 ⟨rfl, h1⟩
  go_wp2_with fail
  go_ret
  exact ⟨rfl, ((Below.refl _ w).alloc (Nat.le_refl _) _).trans (h1.mono (by simp))⟩
structure BkS (b : Nat) (m : Value) (t : Int) (Y : World) : Prop where
 h0 : Y.cell? ⟨b, 0, none⟩ = some m
 h1 : Y.cell? ⟨b, 1, none⟩ = some (.int .i64 t)
theorem BkS.of {b : Nat} {m : Value} {t : Int} {Y : World} {ty : TypeId} (h : Blk Y b #[m, .int .i64 t] ty) : BkS b m t Y := ⟨h.cell 0 rfl, h.cell 1 rfl⟩
theorem mopen_calls (h : LivM w0 W k s) (t : Int) : Calls Tryz.prog 176 #[.agg #[.pointer (some ⟨k.b, 0, none⟩), .int .i64 t]] W fun e W' => e = .returned (.bool (opB s t)) ∧ Below W.heap.size W W' := by
 obtain ⟨w1, hw1⟩ : ∃ w1, W.alloc (.cells #[.pointer (some ⟨k.b, 0, none⟩), .int .i64 t] 72) = w1 := ⟨_, rfl⟩
 have hB : Blk w1 W.heap.size #[.pointer (some ⟨k.b, 0, none⟩), .int .i64 t] 72 := by rw [← hw1]; exact Blk.new W _ _
 have k1 : Below W.heap.size W w1 := by rw [← hw1]; exact (Below.refl _ W).alloc (Nat.le_refl _) _
 have h1 := h.step k1
 have HO := Lib.hid (show opB s t = (hasR s.D (bkO t) && decide ((getE s.D (bkO t)).o = -1)) from rfl)
 obtain ⟨x, hx⟩ : ∃ x, getE s.D (bkO t) = x := ⟨_, rfl⟩
 rw [hx] at HO
 clear h
 go_enter Tryz.func176, Tryz.ntmps176
 go_wp2_with fail
 clear hw1
 refine wp_onlyN ?_
 refine wp_region_held_drew (S := BkS W.heap.size (.pointer (some ⟨k.b, 0, none⟩)) t) (by kernel_rfl) (BkS.of hB) (fun hHeld => ?_)
 have h := h1.step (Below.refl _ w1).drew
 have hB := hB.drew
 have kY := k1.drew
 clear h1 k1
 obtain ⟨Y, hY⟩ : ∃ Y : World, w1.drew = Y := ⟨_, rfl⟩
 rw [hY] at hHeld h kY ⊢
 have hB : Blk Y W.heap.size #[.pointer (some ⟨k.b, 0, none⟩), .int .i64 t] 72 := by rw [← hY]; exact hB
 clear hY
 refine wpAnyH_take (i := 0) (v := ?_) rfl (by kernel_rfl) (by kernel_rfl) (by kernel_rfl) (fun _ _ _ h => h) (Or.inl ⟨by rfl, ?_⟩) (by assumption) ?_
 rotate_left
 ·(intro Y hSw; (try dsimp only at hSw); obtain ⟨hS0, hS1⟩ := hSw; go_simp; try with_reducible rfl)
 try simp only [Act.put, pu1, pu2, pu3, pu4, pu5, pu6]
 refine wpAnyH_take (i := 1) (v := ?_) rfl (by kernel_rfl) (by kernel_rfl) (by kernel_rfl) (fun _ _ _ h => h) (Or.inl ⟨by rfl, ?_⟩) (by assumption) ?_
 rotate_left
 ·(intro Y hSw; (try dsimp only at hSw); obtain ⟨hS0, hS1⟩ := hSw; go_simp; try with_reducible rfl)
 try simp only [Act.put, pu1, pu2, pu3, pu4, pu5, pu6]
 refine wpAnyH_take (i := 2) (v := ?_) rfl (by kernel_rfl) (by kernel_rfl) (by kernel_rfl) (fun _ _ _ h => h) (Or.inl ⟨by rfl, ?_⟩) (by assumption) ?_
 rotate_left
 ·(intro Y hSw; (try dsimp only at hSw); obtain ⟨hS0, hS1⟩ := hSw; go_simp; try with_reducible rfl)
 try simp only [Act.put, pu1, pu2, pu3, pu4, pu5, pu6]
 refine wpAnyH_ready (rs := [3, 8]) (by kernel_rfl) (by simp) ?_
 refine AllReadyH.cons rfl (fun K hK => ?_) (AllReadyH.cons rfl (fun K hK => ?_) AllReadyH.nil)
 ·go_simp
  refine (mbase_calls _ t _).mono ?_; rintro e Z ⟨rfl, j⟩
  replace h := h.step j; replace hB := hB.below j hB.lt; (try replace hA := hA.below j hA.lt); replace kY := kY.trans (j.mono kY.size); clear j
  go_wp2_with fail
  refine hK.out _ _ (BkS.of hB) (fun hHeld => ?_)
  clear hK K
  try simp only [Act.put, pu1, pu2, pu3, pu4, pu5, pu6]
  obtain ⟨Y, rfl⟩ : ∃ Y : World, Y = Z := ⟨_, rfl⟩
  refine wpAnyH_ready (rs := [4, 8]) (by kernel_rfl) (by simp) ?_
  refine AllReadyH.cons rfl (fun K hK => ?_) (AllReadyH.cons rfl (fun K hK => ?_) AllReadyH.nil)
  ·go_simp
   refine (h.get (bkO t)).mono ?_; rintro e Z ⟨rfl, j⟩
   replace h := h.step j; replace hB := hB.below j hB.lt; (try replace hA := hA.below j hA.lt); replace kY := kY.trans (j.mono kY.size); clear j
   rw [hx]
   unfold encE
   go_wp2_with fail
   refine hK.out _ _ (BkS.of hB) (fun hHeld => ?_)
   clear hK K
   try simp only [Act.put, pu1, pu2, pu3, pu4, pu5, pu6]
   obtain ⟨Y, rfl⟩ : ∃ Y : World, Y = Z := ⟨_, rfl⟩
   refine wpAnyH_take (i := 5) (v := ?_) rfl (by kernel_rfl) (by kernel_rfl) (by kernel_rfl) (fun _ _ _ h => h) (Or.inl ⟨by rfl, ?_⟩) (by assumption) ?_
   rotate_left
   ·(intro Y hSw; (try dsimp only at hSw); obtain ⟨hS0, hS1⟩ := hSw; go_simp; try with_reducible rfl)
   try simp only [Act.put, pu1, pu2, pu3, pu4, pu5, pu6]
   refine wpAnyH_take (i := 6) (v := ?_) rfl (by kernel_rfl) (by kernel_rfl) (by kernel_rfl) (fun _ _ _ h => h) (Or.inl ⟨by rfl, ?_⟩) (by assumption) ?_
   rotate_left
   ·(intro Y hSw; (try dsimp only at hSw); obtain ⟨hS0, hS1⟩ := hSw; go_simp; try with_reducible rfl)
   try simp only [Act.put, pu1, pu2, pu3, pu4, pu5, pu6]
   refine wpAnyH_take (i := 7) (v := ?_) rfl (by kernel_rfl) (by kernel_rfl) (by kernel_rfl) (fun _ _ _ h => h) (Or.inl ⟨by rfl, ?_⟩) (by assumption) ?_
   rotate_left
   ·(intro Y hSw; (try dsimp only at hSw); obtain ⟨hS0, hS1⟩ := hSw; go_simp; try with_reducible rfl)
   try simp only [Act.put, pu1, pu2, pu3, pu4, pu5, pu6]
   refine wpAnyH_ready (rs := [8]) (by kernel_rfl) (by simp) ?_
   refine AllReadyH.cons rfl (fun K hK => ?_) AllReadyH.nil
   go_simp
   obtain ⟨pa, hpa⟩ : ∃ g, Y.heap.size = g := ⟨_, rfl⟩
   obtain ⟨Z, hZ⟩ : ∃ Z, Y.alloc (.cells #[.int .i64 0, .int .i64 0, .int .i64 0] 97) = Z := ⟨_, rfl⟩
   have j : Below Y.heap.size Y Z := by rw [← hZ]; exact (Below.refl _ Y).alloc (Nat.le_refl _) _
   have hA : Blk Z pa #[.int .i64 0, .int .i64 0, .int .i64 0] 97 := by rw [← hZ, ← hpa]; exact Blk.new Y _ _
   have hne : W.heap.size < pa := by rw [← hpa]; exact hB.lt
   rw [hZ, hpa]
   replace h := h.step j; replace hB := hB.below j hB.lt; replace kY := kY.trans (j.mono kY.size); clear j hZ hpa
   refine hK.out _ _ (BkS.of hB) (fun hHeld => ?_)
   clear hK K
   try simp only [Act.put, pu1, pu2, pu3, pu4, pu5, pu6]
   obtain ⟨Y, rfl⟩ : ∃ Y : World, Y = Z := ⟨_, rfl⟩
   have r0 := hA.cell 0 (v := .int .i64 0) rfl
   have r1 := hA.cell 1 (v := .int .i64 0) rfl
   have r2 := hA.cell 2 (v := .int .i64 0) rfl
   have f0 := hA.frozen 0
   have f1 := hA.frozen 1
   have f2 := hA.frozen 2
   have z2 := hA.lt
   refine wpAnyH_ready (rs := [9]) (by kernel_rfl) (by simp) ?_
   refine AllReadyH.cons rfl (fun K hK => ?_) AllReadyH.nil
   go_simp
   obtain ⟨Z, hZ⟩ : ∃ Z, ((Y.setCell ⟨pa, 0, none⟩ (.int .i64 x.o)).setCell ⟨pa, 1, none⟩ (.int .i64 x.m)).setCell ⟨pa, 2, none⟩ (.int .i64 x.f) = Z := ⟨_, rfl⟩
   have hA9 : Blk Z pa #[.int .i64 x.o, .int .i64 x.m, .int .i64 x.f] 97 := by rw [← hZ]; exact hA.set3 _ _ _
   have hB9 : Blk Z W.heap.size #[.pointer (some ⟨k.b, 0, none⟩), .int .i64 t] 72 := by rw [← hZ]; exact ((hB.setOther _ _ (by simp; omega)).setOther _ _ (by simp; omega)).setOther _ _ (by simp; omega)
   have kZ : Below W.heap.size W Z := by rw [← hZ]; exact ((kY.setCell (Nat.le_of_lt hne) _).setCell (Nat.le_of_lt hne) _).setCell (Nat.le_of_lt hne) _
   rw [hZ]
   clear hZ r0 r1 r2 f0 f1 f2 z2 hA hB kY
   refine hK.out _ _ (BkS.of hB9) (fun hHeld => ?_)
   clear hK K
   try simp only [Act.put, pu1, pu2, pu3, pu4, pu5, pu6]
   refine wpAnyH_take (i := 10) (v := ?_) rfl (by kernel_rfl) (by kernel_rfl) (by kernel_rfl) (fun _ _ _ h => h) (Or.inl ⟨by rfl, ?_⟩) (by assumption) ?_
   rotate_left
   ·(intro Y hSw; (try dsimp only at hSw); obtain ⟨hS0, hS1⟩ := hSw; go_simp; try with_reducible rfl)
   try simp only [Act.put, pu1, pu2, pu3, pu4, pu5, pu6]
   refine wpAnyH_done (by kernel_rfl) ?_ _
   rw [onlyN_normal]
   have r0 := hA9.cell 0 (v := .int .i64 x.o) rfl
   cases hr : hasR s.D (bkO t)
   ·rw [hr] at HO
    clear hr
    go_wp2_with fail
    go_ret
    exact ⟨by rw [HO.out]; rfl, kZ⟩
   ·rw [hr] at HO
    clear hr
    go_wp2_with fail
    go_ret
    refine ⟨?_, kZ⟩
    rw [HO.out]
    rfl
  ·go_simp
   obtain ⟨pa, hpa⟩ : ∃ g, Y.heap.size = g := ⟨_, rfl⟩
   obtain ⟨Z, hZ⟩ : ∃ Z, Y.alloc (.cells #[.int .i64 0, .int .i64 0, .int .i64 0] 97) = Z := ⟨_, rfl⟩
   have j : Below Y.heap.size Y Z := by rw [← hZ]; exact (Below.refl _ Y).alloc (Nat.le_refl _) _
   have hA : Blk Z pa #[.int .i64 0, .int .i64 0, .int .i64 0] 97 := by rw [← hZ, ← hpa]; exact Blk.new Y _ _
   have hne : W.heap.size < pa := by rw [← hpa]; exact hB.lt
   rw [hZ, hpa]
   replace h := h.step j; replace hB := hB.below j hB.lt; replace kY := kY.trans (j.mono kY.size); clear j hZ hpa
   refine hK.out _ _ (BkS.of hB) (fun hHeld => ?_)
   clear hK K
   try simp only [Act.put, pu1, pu2, pu3, pu4, pu5, pu6]
   obtain ⟨Y, rfl⟩ : ∃ Y : World, Y = Z := ⟨_, rfl⟩
   refine wpAnyH_ready (rs := [4]) (by kernel_rfl) (by simp) ?_
   refine AllReadyH.cons rfl (fun K hK => ?_) AllReadyH.nil
   go_simp
   refine (h.get (bkO t)).mono ?_; rintro e Z ⟨rfl, j⟩
   replace h := h.step j; replace hB := hB.below j hB.lt; (try replace hA := hA.below j hA.lt); replace kY := kY.trans (j.mono kY.size); clear j
   rw [hx]
   unfold encE
   go_wp2_with fail
   refine hK.out _ _ (BkS.of hB) (fun hHeld => ?_)
   clear hK K
   try simp only [Act.put, pu1, pu2, pu3, pu4, pu5, pu6]
   obtain ⟨Y, rfl⟩ : ∃ Y : World, Y = Z := ⟨_, rfl⟩
   refine wpAnyH_take (i := 5) (v := ?_) rfl (by kernel_rfl) (by kernel_rfl) (by kernel_rfl) (fun _ _ _ h => h) (Or.inl ⟨by rfl, ?_⟩) (by assumption) ?_
   rotate_left
   ·(intro Y hSw; (try dsimp only at hSw); obtain ⟨hS0, hS1⟩ := hSw; go_simp; try with_reducible rfl)
   try simp only [Act.put, pu1, pu2, pu3, pu4, pu5, pu6]
   refine wpAnyH_take (i := 6) (v := ?_) rfl (by kernel_rfl) (by kernel_rfl) (by kernel_rfl) (fun _ _ _ h => h) (Or.inl ⟨by rfl, ?_⟩) (by assumption) ?_
   rotate_left
   ·(intro Y hSw; (try dsimp only at hSw); obtain ⟨hS0, hS1⟩ := hSw; go_simp; try with_reducible rfl)
   try simp only [Act.put, pu1, pu2, pu3, pu4, pu5, pu6]
   refine wpAnyH_take (i := 7) (v := ?_) rfl (by kernel_rfl) (by kernel_rfl) (by kernel_rfl) (fun _ _ _ h => h) (Or.inl ⟨by rfl, ?_⟩) (by assumption) ?_
   rotate_left
   ·(intro Y hSw; (try dsimp only at hSw); obtain ⟨hS0, hS1⟩ := hSw; go_simp; try with_reducible rfl)
   try simp only [Act.put, pu1, pu2, pu3, pu4, pu5, pu6]
   have r0 := hA.cell 0 (v := .int .i64 0) rfl
   have r1 := hA.cell 1 (v := .int .i64 0) rfl
   have r2 := hA.cell 2 (v := .int .i64 0) rfl
   have f0 := hA.frozen 0
   have f1 := hA.frozen 1
   have f2 := hA.frozen 2
   have z2 := hA.lt
   refine wpAnyH_ready (rs := [9]) (by kernel_rfl) (by simp) ?_
   refine AllReadyH.cons rfl (fun K hK => ?_) AllReadyH.nil
   go_simp
   obtain ⟨Z, hZ⟩ : ∃ Z, ((Y.setCell ⟨pa, 0, none⟩ (.int .i64 x.o)).setCell ⟨pa, 1, none⟩ (.int .i64 x.m)).setCell ⟨pa, 2, none⟩ (.int .i64 x.f) = Z := ⟨_, rfl⟩
   have hA9 : Blk Z pa #[.int .i64 x.o, .int .i64 x.m, .int .i64 x.f] 97 := by rw [← hZ]; exact hA.set3 _ _ _
   have hB9 : Blk Z W.heap.size #[.pointer (some ⟨k.b, 0, none⟩), .int .i64 t] 72 := by rw [← hZ]; exact ((hB.setOther _ _ (by simp; omega)).setOther _ _ (by simp; omega)).setOther _ _ (by simp; omega)
   have kZ : Below W.heap.size W Z := by rw [← hZ]; exact ((kY.setCell (Nat.le_of_lt hne) _).setCell (Nat.le_of_lt hne) _).setCell (Nat.le_of_lt hne) _
   rw [hZ]
   clear hZ r0 r1 r2 f0 f1 f2 z2 hA hB kY
   refine hK.out _ _ (BkS.of hB9) (fun hHeld => ?_)
   clear hK K
   try simp only [Act.put, pu1, pu2, pu3, pu4, pu5, pu6]
   refine wpAnyH_take (i := 10) (v := ?_) rfl (by kernel_rfl) (by kernel_rfl) (by kernel_rfl) (fun _ _ _ h => h) (Or.inl ⟨by rfl, ?_⟩) (by assumption) ?_
   rotate_left
   ·(intro Y hSw; (try dsimp only at hSw); obtain ⟨hS0, hS1⟩ := hSw; go_simp; try with_reducible rfl)
   try simp only [Act.put, pu1, pu2, pu3, pu4, pu5, pu6]
   refine wpAnyH_done (by kernel_rfl) ?_ _
   rw [onlyN_normal]
   have r0 := hA9.cell 0 (v := .int .i64 x.o) rfl
   cases hr : hasR s.D (bkO t)
   ·rw [hr] at HO
    clear hr
    go_wp2_with fail
    go_ret
    exact ⟨by rw [HO.out]; rfl, kZ⟩
   ·rw [hr] at HO
    clear hr
    go_wp2_with fail
    go_ret
    refine ⟨?_, kZ⟩
    rw [HO.out]
    rfl
 ·go_simp
  obtain ⟨pa, hpa⟩ : ∃ g, Y.heap.size = g := ⟨_, rfl⟩
  obtain ⟨Z, hZ⟩ : ∃ Z, Y.alloc (.cells #[.int .i64 0, .int .i64 0, .int .i64 0] 97) = Z := ⟨_, rfl⟩
  have j : Below Y.heap.size Y Z := by rw [← hZ]; exact (Below.refl _ Y).alloc (Nat.le_refl _) _
  have hA : Blk Z pa #[.int .i64 0, .int .i64 0, .int .i64 0] 97 := by rw [← hZ, ← hpa]; exact Blk.new Y _ _
  have hne : W.heap.size < pa := by rw [← hpa]; exact hB.lt
  rw [hZ, hpa]
  replace h := h.step j; replace hB := hB.below j hB.lt; replace kY := kY.trans (j.mono kY.size); clear j hZ hpa
  refine hK.out _ _ (BkS.of hB) (fun hHeld => ?_)
  clear hK K
  try simp only [Act.put, pu1, pu2, pu3, pu4, pu5, pu6]
  obtain ⟨Y, rfl⟩ : ∃ Y : World, Y = Z := ⟨_, rfl⟩
  refine wpAnyH_ready (rs := [3]) (by kernel_rfl) (by simp) ?_
  refine AllReadyH.cons rfl (fun K hK => ?_) AllReadyH.nil
  go_simp
  refine (mbase_calls _ t _).mono ?_; rintro e Z ⟨rfl, j⟩
  replace h := h.step j; replace hB := hB.below j hB.lt; (try replace hA := hA.below j hA.lt); replace kY := kY.trans (j.mono kY.size); clear j
  go_wp2_with fail
  refine hK.out _ _ (BkS.of hB) (fun hHeld => ?_)
  clear hK K
  try simp only [Act.put, pu1, pu2, pu3, pu4, pu5, pu6]
  obtain ⟨Y, rfl⟩ : ∃ Y : World, Y = Z := ⟨_, rfl⟩
  refine wpAnyH_ready (rs := [4]) (by kernel_rfl) (by simp) ?_
  refine AllReadyH.cons rfl (fun K hK => ?_) AllReadyH.nil
  go_simp
  refine (h.get (bkO t)).mono ?_; rintro e Z ⟨rfl, j⟩
  replace h := h.step j; replace hB := hB.below j hB.lt; (try replace hA := hA.below j hA.lt); replace kY := kY.trans (j.mono kY.size); clear j
  rw [hx]
  unfold encE
  go_wp2_with fail
  refine hK.out _ _ (BkS.of hB) (fun hHeld => ?_)
  clear hK K
  try simp only [Act.put, pu1, pu2, pu3, pu4, pu5, pu6]
  obtain ⟨Y, rfl⟩ : ∃ Y : World, Y = Z := ⟨_, rfl⟩
  refine wpAnyH_take (i := 5) (v := ?_) rfl (by kernel_rfl) (by kernel_rfl) (by kernel_rfl) (fun _ _ _ h => h) (Or.inl ⟨by rfl, ?_⟩) (by assumption) ?_
  rotate_left
  ·(intro Y hSw; (try dsimp only at hSw); obtain ⟨hS0, hS1⟩ := hSw; go_simp; try with_reducible rfl)
  try simp only [Act.put, pu1, pu2, pu3, pu4, pu5, pu6]
  refine wpAnyH_take (i := 6) (v := ?_) rfl (by kernel_rfl) (by kernel_rfl) (by kernel_rfl) (fun _ _ _ h => h) (Or.inl ⟨by rfl, ?_⟩) (by assumption) ?_
  rotate_left
  ·(intro Y hSw; (try dsimp only at hSw); obtain ⟨hS0, hS1⟩ := hSw; go_simp; try with_reducible rfl)
  try simp only [Act.put, pu1, pu2, pu3, pu4, pu5, pu6]
  refine wpAnyH_take (i := 7) (v := ?_) rfl (by kernel_rfl) (by kernel_rfl) (by kernel_rfl) (fun _ _ _ h => h) (Or.inl ⟨by rfl, ?_⟩) (by assumption) ?_
  rotate_left
  ·(intro Y hSw; (try dsimp only at hSw); obtain ⟨hS0, hS1⟩ := hSw; go_simp; try with_reducible rfl)
  try simp only [Act.put, pu1, pu2, pu3, pu4, pu5, pu6]
  have r0 := hA.cell 0 (v := .int .i64 0) rfl
  have r1 := hA.cell 1 (v := .int .i64 0) rfl
  have r2 := hA.cell 2 (v := .int .i64 0) rfl
  have f0 := hA.frozen 0
  have f1 := hA.frozen 1
  have f2 := hA.frozen 2
  have z2 := hA.lt
  refine wpAnyH_ready (rs := [9]) (by kernel_rfl) (by simp) ?_
  refine AllReadyH.cons rfl (fun K hK => ?_) AllReadyH.nil
  go_simp
  obtain ⟨Z, hZ⟩ : ∃ Z, ((Y.setCell ⟨pa, 0, none⟩ (.int .i64 x.o)).setCell ⟨pa, 1, none⟩ (.int .i64 x.m)).setCell ⟨pa, 2, none⟩ (.int .i64 x.f) = Z := ⟨_, rfl⟩
  have hA9 : Blk Z pa #[.int .i64 x.o, .int .i64 x.m, .int .i64 x.f] 97 := by rw [← hZ]; exact hA.set3 _ _ _
  have hB9 : Blk Z W.heap.size #[.pointer (some ⟨k.b, 0, none⟩), .int .i64 t] 72 := by rw [← hZ]; exact ((hB.setOther _ _ (by simp; omega)).setOther _ _ (by simp; omega)).setOther _ _ (by simp; omega)
  have kZ : Below W.heap.size W Z := by rw [← hZ]; exact ((kY.setCell (Nat.le_of_lt hne) _).setCell (Nat.le_of_lt hne) _).setCell (Nat.le_of_lt hne) _
  rw [hZ]
  clear hZ r0 r1 r2 f0 f1 f2 z2 hA hB kY
  refine hK.out _ _ (BkS.of hB9) (fun hHeld => ?_)
  clear hK K
  try simp only [Act.put, pu1, pu2, pu3, pu4, pu5, pu6]
  refine wpAnyH_take (i := 10) (v := ?_) rfl (by kernel_rfl) (by kernel_rfl) (by kernel_rfl) (fun _ _ _ h => h) (Or.inl ⟨by rfl, ?_⟩) (by assumption) ?_
  rotate_left
  ·(intro Y hSw; (try dsimp only at hSw); obtain ⟨hS0, hS1⟩ := hSw; go_simp; try with_reducible rfl)
  try simp only [Act.put, pu1, pu2, pu3, pu4, pu5, pu6]
  refine wpAnyH_done (by kernel_rfl) ?_ _
  rw [onlyN_normal]
  have r0 := hA9.cell 0 (v := .int .i64 x.o) rfl
  cases hr : hasR s.D (bkO t)
  ·rw [hr] at HO
   clear hr
   go_wp2_with fail
   go_ret
   exact ⟨by rw [HO.out]; rfl, kZ⟩
  ·rw [hr] at HO
   clear hr
   go_wp2_with fail
   go_ret
   refine ⟨?_, kZ⟩
   rw [HO.out]
   rfl
theorem mopened_calls (m : Value) (t : Int) (w : World) : Calls Tryz.prog 102 #[.agg #[m, .int .i64 t]] w fun e w' => ∃ p, e = .returned (.agg #[.func (.func 175) #[] #[.pointer (some ⟨p, 0, none⟩)], .int .i64 5]) ∧
  Blk w' p #[m, .int .i64 t] 72 ∧ Below w.heap.size w w' := by
 go_enter Tryz.func102, Tryz.ntmps102
 go_wp2_with fail
 refine bodyPost_ret (v := .agg #[.func (.func 175) #[] #[.pointer (some ⟨w.heap.size, 0, none⟩)], .int .i64 5]) (by simp [results, Tryz.results102, go_sem]) rfl
  ⟨_, rfl, (Blk.new w _ _).alloc _, ((Below.refl _ w).alloc (Nat.le_refl _) _).alloc (by simp) _⟩
theorem mopened1_calls (h : LivM w0 W k s) {t : Int} {p : Nat} (hb : Blk W p #[.pointer (some ⟨k.b, 0, none⟩), .int .i64 t] 72) : Calls Tryz.prog 175 #[.pointer (some ⟨p, 0, none⟩)] W fun e w' => e = .returned (.bool (!opB s t)) ∧ Below W.heap.size W w' := by
 have c0 : W.cell? ⟨p, 0, none⟩ = some (.pointer (some ⟨k.b, 0, none⟩)) := hb.cell 0 rfl
 have c1 : W.cell? ⟨p, 1, none⟩ = some (.int .i64 t) := hb.cell 1 rfl
 clear hb
 go_enter Tryz.func175, Tryz.ntmps175
 go_wp2_with fail
 refine (mopen_calls h t).mono ?_; rintro e w1 ⟨rfl, j⟩
 go_wp2_with fail
 go_ret
 exact ⟨rfl, j⟩
end Go.Proofs.YtlpchcdalfkfcaaGreat

