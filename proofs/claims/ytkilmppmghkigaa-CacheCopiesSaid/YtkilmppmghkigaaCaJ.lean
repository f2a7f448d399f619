/-
  Package cache: Put. Conditions: shelves of fewer than a million.
-/
import Derived.Test.YtkilmppmghkigaaCaP
import Derived.Test.YtkilmppmghkigaaChgs
import Derived.Deep.RegionHeld
namespace Go.Proofs.Ytkilmppmghkigaa
open Go.RowKit
attribute [local go_sem] Oper.semAt_some
set_option maxHeartbeats 4000000
set_option maxRecDepth 4000

structure PutS (w0 : World) (ps pt pc px s : Nat) (t c x : Int) (Y : World) : Prop where
  bel : Below w0.heap.size w0 Y
  cs : Y.cell? ⟨ps, 0, none⟩ = some (.pointer (some ⟨s, 0, none⟩))
  ct : Y.cell? ⟨pt, 0, none⟩ = some (.int .i64 t)
  cc : Y.cell? ⟨pc, 0, none⟩ = some (.int .i64 c)
  cx : Y.cell? ⟨px, 0, none⟩ = some (.int .i64 x)
theorem PutS.of {w0 Y : World} {ps pt pc px s : Nat} {t c x : Int} (hs : w0.cell? ⟨ps, 0, none⟩ = some (.pointer (some ⟨s, 0, none⟩))) (ht : w0.cell? ⟨pt, 0, none⟩ = some (.int .i64 t)) (hc : w0.cell? ⟨pc, 0, none⟩ = some (.int .i64 c)) (hx : w0.cell? ⟨px, 0, none⟩ = some (.int .i64 x))
    (h : Below w0.heap.size w0 Y) : PutS w0 ps pt pc px s t c x Y :=
  ⟨h, (h.cell (p := ⟨ps, 0, none⟩) (World.block_lt_of_cell? w0 _ hs)).trans hs, (h.cell (p := ⟨pt, 0, none⟩) (World.block_lt_of_cell? w0 _ ht)).trans ht, (h.cell (p := ⟨pc, 0, none⟩) (World.block_lt_of_cell? w0 _ hc)).trans hc, (h.cell (p := ⟨px, 0, none⟩) (World.block_lt_of_cell? w0 _ hx)).trans hx⟩
theorem PutS.step {w0 X Y : World} {ps pt pc px s : Nat} {t c x : Int} (h : PutS w0 ps pt pc px s t c x X) (k : Below X.heap.size X Y) : PutS w0 ps pt pc px s t c x Y :=
  ⟨h.bel.trans (k.mono h.bel.size), (k.cell (p := ⟨ps, 0, none⟩) (World.block_lt_of_cell? X _ h.cs)).trans h.cs, (k.cell (p := ⟨pt, 0, none⟩) (World.block_lt_of_cell? X _ h.ct)).trans h.ct, (k.cell (p := ⟨pc, 0, none⟩) (World.block_lt_of_cell? X _ h.cc)).trans h.cc, (k.cell (p := ⟨px, 0, none⟩) (World.block_lt_of_cell? X _ h.cx)).trans h.cx⟩
structure P3S (ps pt pc px s : Nat) (t c x : Int) (Y : World) : Prop where
  cs : Y.cell? ⟨ps, 0, none⟩ = some (.pointer (some ⟨s, 0, none⟩))
  ct : Y.cell? ⟨pt, 0, none⟩ = some (.int .i64 t)
  cc : Y.cell? ⟨pc, 0, none⟩ = some (.int .i64 c)
  cx : Y.cell? ⟨px, 0, none⟩ = some (.int .i64 x)
theorem P3S.step {X Y : World} {ps pt pc px s : Nat} {t c x : Int} (h : P3S ps pt pc px s t c x X) (k : Below X.heap.size X Y) : P3S ps pt pc px s t c x Y :=
  ⟨(k.cell (p := ⟨ps, 0, none⟩) (World.block_lt_of_cell? X _ h.cs)).trans h.cs, (k.cell (p := ⟨pt, 0, none⟩) (World.block_lt_of_cell? X _ h.ct)).trans h.ct, (k.cell (p := ⟨pc, 0, none⟩) (World.block_lt_of_cell? X _ h.cc)).trans h.cc, (k.cell (p := ⟨px, 0, none⟩) (World.block_lt_of_cell? X _ h.cx)).trans h.cx⟩
theorem P3S.set {X : World} {ps pt pc px s : Nat} {t c x : Int} (h : P3S ps pt pc px s t c x X) (a : Addr) (v : Value) (h1 : ps ≠ a.block) (h2 : pt ≠ a.block) (h3 : pc ≠ a.block) (h4 : px ≠ a.block) : P3S ps pt pc px s t c x (X.setCell a v) :=
  ⟨(World.cell?_setCell_far X a ⟨ps, 0, none⟩ v h1.symm).trans h.cs, (World.cell?_setCell_far X a ⟨pt, 0, none⟩ v h2.symm).trans h.ct, (World.cell?_setCell_far X a ⟨pc, 0, none⟩ v h3.symm).trans h.cc, (World.cell?_setCell_far X a ⟨px, 0, none⟩ v h4.symm).trans h.cx⟩
theorem rowOf {W : World} {b : Nat} {v : Value} {t : TypeId} (h : Blk W b #[v] t) : RowAt W.heap.size W (.slice (some ⟨b, 0, none⟩) 1 1) 1 [v] :=
  ⟨_, 1, rfl, ⟨Nat.le_refl _, fun h => by cases h⟩, .inr ⟨b, 0, rfl, h.lt, fun i hi => by
    obtain rfl : i = 0 := by simpa using hi
    exact h.cell 0 rfl⟩⟩
theorem Put_ok {w : World} {s : Nat} {L : Nat → List Int} (hS : ShAt w s L) (hL : ∀ i, (L i).length < 1000000) (t c x : Int) : Calls Try.prog 10 #[.pointer (some ⟨s, 0, none⟩), .int .i64 t, .int .i64 c, .int .i64 x] w fun e w' =>
    e = .returned (.int .i64 (putErr L t c x)) ∧ ShAt w' s (putAfter L t c x) ∧ Chg s w w' ∧ ∀ g, g < w.heap.size → Off g w s → Off g w' s := by
  obtain ⟨w0, hw0⟩ : ∃ w0, (((w.alloc (.cells #[.pointer (some ⟨s, 0, none⟩)] 27)).alloc (.cells #[.int .i64 t] 3)).alloc (.cells #[.int .i64 c] 3)).alloc (.cells #[.int .i64 x] 3) = w0 := ⟨_, rfl⟩
  have hA : Blk w0 w.heap.size #[.pointer (some ⟨s, 0, none⟩)] 27 := by rw [← hw0]; exact (((Blk.new w _ _).alloc _).alloc _).alloc _
  have hB : Blk w0 (w.heap.size + 1) #[.int .i64 t] 3 := by rw [← hw0]; exact ((Blk.newAt _ _ _ (by simp)).alloc _).alloc _
  have hC : Blk w0 (w.heap.size + 1 + 1) #[.int .i64 c] 3 := by rw [← hw0]; exact (Blk.newAt _ _ _ (by simp)).alloc _
  have hD : Blk w0 (w.heap.size + 1 + 1 + 1) #[.int .i64 x] 3 := by rw [← hw0]; exact Blk.newAt _ _ _ (by simp)
  have hb0 : Below w.heap.size w w0 := by rw [← hw0]; exact ((((Below.refl _ w).alloc (Nat.le_refl _) _).alloc (by simp) _).alloc (by simp; omega) _).alloc (by simp; omega) _
  have h0 : ShAt w0 s L := hS.step hb0
  have hsl := hS.lt
  have z0 := hb0.size
  have a0 : w0.cell? ⟨w.heap.size, 0, none⟩ = some (.pointer (some ⟨s, 0, none⟩)) := hA.cell 0 rfl
  have a1 : w0.cell? ⟨w.heap.size + 1, 0, none⟩ = some (.int .i64 t) := hB.cell 0 rfl
  have a2 : w0.cell? ⟨w.heap.size + 1 + 1, 0, none⟩ = some (.int .i64 c) := hC.cell 0 rfl
  have a3 : w0.cell? ⟨w.heap.size + 1 + 1 + 1, 0, none⟩ = some (.int .i64 x) := hD.cell 0 rfl
  go_enter Try.func10, Try.ntmps10
  go_wp2_with fail
  clear hw0
  refine wp_region_held_drew (S := PutS w0 w.heap.size (w.heap.size + 1) (w.heap.size + 1 + 1) (w.heap.size + 1 + 1 + 1) s t c x) (by kernel_rfl) (PutS.of a0 a1 a2 a3 (Below.refl _ w0).drew) (fun hHeld => ?_)
  refine wpAnyH_take (i := 0) (v := ?_) rfl (by kernel_rfl) (by kernel_rfl) (by kernel_rfl) (fun _ _ _ h => h) (Or.inl ⟨by rfl, ?_⟩) (by assumption) ?_
  rotate_left
  · (intro Y hSw; (try dsimp only at hSw); obtain ⟨hS0, hS1, hS2, hS3, hS4⟩ := hSw; go_simp; try with_reducible rfl)
  try simp only [Act.put, List.getElem_toArray, List.getElem_cons_zero, List.getElem_cons_succ, List.setIfInBounds_toArray, List.set_cons_zero, List.set_cons_succ]
  refine wpAnyH_take (i := 2) (v := ?_) rfl (by kernel_rfl) (by kernel_rfl) (by kernel_rfl) (fun _ _ _ h => h) (Or.inl ⟨by rfl, ?_⟩) (by assumption) ?_
  rotate_left
  · (intro Y hSw; (try dsimp only at hSw); obtain ⟨hS0, hS1, hS2, hS3, hS4⟩ := hSw; go_simp; try with_reducible rfl)
  try simp only [Act.put, List.getElem_toArray, List.getElem_cons_zero, List.getElem_cons_succ, List.setIfInBounds_toArray, List.set_cons_zero, List.set_cons_succ]
  refine wpAnyH_take (i := 4) (v := ?_) rfl (by kernel_rfl) (by kernel_rfl) (by kernel_rfl) (fun _ _ _ h => h) (Or.inl ⟨by rfl, ?_⟩) (by assumption) ?_
  rotate_left
  · (intro Y hSw; (try dsimp only at hSw); obtain ⟨hS0, hS1, hS2, hS3, hS4⟩ := hSw; go_simp; try with_reducible rfl)
  try simp only [Act.put, List.getElem_toArray, List.getElem_cons_zero, List.getElem_cons_succ, List.setIfInBounds_toArray, List.set_cons_zero, List.set_cons_succ]
  refine wpAnyH_take (i := 6) (v := ?_) rfl (by kernel_rfl) (by kernel_rfl) (by kernel_rfl) (fun _ _ _ h => h) (Or.inl ⟨by rfl, ?_⟩) (by assumption) ?_
  rotate_left
  · (intro Y hSw; (try dsimp only at hSw); obtain ⟨hS0, hS1, hS2, hS3, hS4⟩ := hSw; go_simp; try with_reducible rfl)
  try simp only [Act.put, List.getElem_toArray, List.getElem_cons_zero, List.getElem_cons_succ, List.setIfInBounds_toArray, List.set_cons_zero, List.set_cons_succ]
  refine wpAnyH_take (i := 8) (v := ?_) rfl (by kernel_rfl) (by kernel_rfl) (by kernel_rfl) (fun _ _ _ h => h) (Or.inl ⟨by rfl, ?_⟩) (by assumption) ?_
  rotate_left
  · (intro Y hSw; (try dsimp only at hSw); obtain ⟨hS0, hS1, hS2, hS3, hS4⟩ := hSw; go_simp; try with_reducible rfl)
  try simp only [Act.put, List.getElem_toArray, List.getElem_cons_zero, List.getElem_cons_succ, List.setIfInBounds_toArray, List.set_cons_zero, List.set_cons_succ]
  refine wpAnyH_take (i := 9) (v := ?_) rfl (by kernel_rfl) (by kernel_rfl) (by kernel_rfl) (fun _ _ _ h => h) (Or.inl ⟨by rfl, ?_⟩) (by assumption) ?_
  rotate_left
  · (intro Y hSw; (try dsimp only at hSw); obtain ⟨hS0, hS1, hS2, hS3, hS4⟩ := hSw; go_simp; try with_reducible rfl)
  try simp only [Act.put, List.getElem_toArray, List.getElem_cons_zero, List.getElem_cons_succ, List.setIfInBounds_toArray, List.set_cons_zero, List.set_cons_succ]
  refine wpAnyH_take (i := 10) (v := ?_) rfl (by kernel_rfl) (by kernel_rfl) (by kernel_rfl) (fun _ _ _ h => h) (Or.inl ⟨by rfl, ?_⟩) (by assumption) ?_
  rotate_left
  · (intro Y hSw; (try dsimp only at hSw); obtain ⟨hS0, hS1, hS2, hS3, hS4⟩ := hSw; go_simp; try with_reducible rfl)
  try simp only [Act.put, List.getElem_toArray, List.getElem_cons_zero, List.getElem_cons_succ, List.setIfInBounds_toArray, List.set_cons_zero, List.set_cons_succ]
  refine wpAnyH_take (i := 11) (v := ?_) rfl (by kernel_rfl) (by kernel_rfl) (by kernel_rfl) (fun _ _ _ h => h) (Or.inl ⟨by rfl, ?_⟩) (by assumption) ?_
  rotate_left
  · (intro Y hSw; (try dsimp only at hSw); obtain ⟨hS0, hS1, hS2, hS3, hS4⟩ := hSw; go_simp; try with_reducible rfl)
  try simp only [Act.put, List.getElem_toArray, List.getElem_cons_zero, List.getElem_cons_succ, List.setIfInBounds_toArray, List.set_cons_zero, List.set_cons_succ]
  refine wpAnyH_ready (rs := [1]) (by kernel_rfl) (by simp) ?_
  refine AllReadyH.cons rfl (fun K hK => ?_) AllReadyH.nil
  go_simp
  refine (is_calls _ _).mono ?_; rintro e w1 ⟨rfl, h1⟩
  have k1 := (Below.refl w0.heap.size w0).drew.trans (h1.mono (Nat.le_refl _))
  have z1 := k1.size
  go_wp2_with fail
  refine hK.out _ _ (PutS.of a0 a1 a2 a3 k1) (fun hHeld => ?_)
  clear hK K
  try simp only [Act.put, List.getElem_toArray, List.getElem_cons_zero, List.getElem_cons_succ, List.setIfInBounds_toArray, List.set_cons_zero, List.set_cons_succ]
  refine wpAnyH_ready (rs := [3]) (by kernel_rfl) (by simp) ?_
  refine AllReadyH.cons rfl (fun K hK => ?_) AllReadyH.nil
  go_simp
  refine (in_calls t 4 2 _).mono ?_; rintro e w2 ⟨rfl, p1, p2, h2⟩
  have k2 := k1.trans (h2.mono k1.size)
  go_wp2_with fail
  refine hK.out _ _ (PutS.of a0 a1 a2 a3 k2) (fun hHeld => ?_)
  clear hK K
  try simp only [Act.put, List.getElem_toArray, List.getElem_cons_zero, List.getElem_cons_succ, List.setIfInBounds_toArray, List.set_cons_zero, List.set_cons_succ]
  refine wpAnyH_ready (rs := [5]) (by kernel_rfl) (by simp) ?_
  refine AllReadyH.cons rfl (fun K hK => ?_) AllReadyH.nil
  go_simp
  refine (in_calls c 8 2 _).mono ?_; rintro e w3 ⟨rfl, p3, p4, h3⟩
  have k3 := k2.trans (h3.mono k2.size)
  replace p1 := p1.below h3 p1.lt
  replace p2 := p2.below h3 p2.lt
  go_wp2_with fail
  refine hK.out _ _ (PutS.of a0 a1 a2 a3 k3) (fun hHeld => ?_)
  clear hK K
  try simp only [Act.put, List.getElem_toArray, List.getElem_cons_zero, List.getElem_cons_succ, List.setIfInBounds_toArray, List.set_cons_zero, List.set_cons_succ]
  refine wpAnyH_ready (rs := [7]) (by kernel_rfl) (by simp) ?_
  refine AllReadyH.cons rfl (fun K hK => ?_) AllReadyH.nil
  go_simp
  refine (in_calls x 256 4 _).mono ?_; rintro e w4 ⟨rfl, p5, p6, h4⟩
  have k4 := k3.trans (h4.mono k3.size)
  have z4 := k4.size
  replace p1 := p1.below h4 p1.lt
  replace p2 := p2.below h4 p2.lt
  replace p3 := p3.below h4 p3.lt
  replace p4 := p4.below h4 p4.lt
  go_wp2_with fail
  refine hK.out _ _ (PutS.of a0 a1 a2 a3 k4) (fun hHeld => ?_)
  clear hK K
  try simp only [Act.put, List.getElem_toArray, List.getElem_cons_zero, List.getElem_cons_succ, List.setIfInBounds_toArray, List.set_cons_zero, List.set_cons_succ]
  refine wpAnyH_ready (rs := [12]) (by kernel_rfl) (by simp) ?_
  refine AllReadyH.cons rfl (fun K hK => ?_) AllReadyH.nil
  go_simp
  have jx : Below w4.heap.size w4 (w4.alloc (.cells (askList (putAsks s w1.heap.size w2.heap.size w3.heap.size w.heap.size (w.heap.size + 1) (w.heap.size + 1 + 1) (w.heap.size + 1 + 1 + 1) L t c x)).toArray 66)) := (Below.refl _ w4).alloc (Nat.le_refl _) _
  have k5 := k4.trans (jx.mono z4)
  have hrow : AskRow (w4.alloc (.cells (askList (putAsks s w1.heap.size w2.heap.size w3.heap.size w.heap.size (w.heap.size + 1) (w.heap.size + 1 + 1) (w.heap.size + 1 + 1 + 1) L t c x)).toArray 66)) w4.heap.size (putAsks s w1.heap.size w2.heap.size w3.heap.size w.heap.size (w.heap.size + 1) (w.heap.size + 1 + 1) (w.heap.size + 1 + 1 + 1) L t c x) := askRow_of (Blk.new w4 _ _)
  refine hK.out _ _ (PutS.of a0 a1 a2 a3 k5) (fun hHeld => ?_)
  clear hK K
  try simp only [Act.put, List.getElem_toArray, List.getElem_cons_zero, List.getElem_cons_succ, List.setIfInBounds_toArray, List.set_cons_zero, List.set_cons_succ]
  change wpAnyH _ _ _ _ _ _ _ _ (w4.alloc (.cells (askList (putAsks s w1.heap.size w2.heap.size w3.heap.size w.heap.size (w.heap.size + 1) (w.heap.size + 1 + 1) (w.heap.size + 1 + 1 + 1) L t c x)).toArray 66))
  generalize (w4.alloc (.cells (askList (putAsks s w1.heap.size w2.heap.size w3.heap.size w.heap.size (w.heap.size + 1) (w.heap.size + 1 + 1) (w.heap.size + 1 + 1 + 1) L t c x)).toArray 66)) = w5 at k5 hrow hHeld jx ⊢
  have hans : Answers w5 (putAsks s w1.heap.size w2.heap.size w3.heap.size w.heap.size (w.heap.size + 1) (w.heap.size + 1 + 1) (w.heap.size + 1 + 1 + 1) L t c x) :=
    put_answers (h0.step k5) hL (p1.below jx p1.lt) (p2.below jx p2.lt) (p3.below jx p3.lt) (p4.below jx p4.lt) (p5.below jx p5.lt) (p6.below jx p6.lt) (hA.below k5 hA.lt) (hB.below k5 hB.lt) (hC.below k5 hC.lt) (hD.below k5 hD.lt)
  refine wpAnyH_ready (rs := [13]) (by kernel_rfl) (by simp) ?_
  refine AllReadyH.cons rfl (fun K hK => ?_) AllReadyH.nil
  go_simp
  refine (asked_ok w5 w4.heap.size 6 6 _ rfl (by simp [putAsks]) (Lib.hid hrow) (Lib.hid hans)).mono ?_; rintro e w6 ⟨rfl, h6⟩
  rw [putErr_eq]
  have k6 := k5.trans (h6.mono k5.size)
  have z6 := k6.size
  go_wp2_with fail
  refine hK.out _ _ (PutS.of a0 a1 a2 a3 k6) (fun hHeld => ?_)
  clear hK K
  try simp only [Act.put, List.getElem_toArray, List.getElem_cons_zero, List.getElem_cons_succ, List.setIfInBounds_toArray, List.set_cons_zero, List.set_cons_succ]
  refine wpAnyH_take (i := 14) (v := ?_) rfl (by kernel_rfl) (by kernel_rfl) (by kernel_rfl) (fun _ _ _ h => h) (Or.inl ⟨by rfl, ?_⟩) (by assumption) ?_
  rotate_left
  · (intro Y hSw; (try dsimp only at hSw); obtain ⟨hS0, hS1, hS2, hS3, hS4⟩ := hSw; go_simp; try with_reducible rfl)
  try simp only [Act.put, List.getElem_toArray, List.getElem_cons_zero, List.getElem_cons_succ, List.setIfInBounds_toArray, List.set_cons_zero, List.set_cons_succ]
  refine wpAnyH_done (by kernel_rfl) ?_ _
  clear hrow hans p1 p2 p3 p4 p5 p6 h1 h2 h3 h4 h6 k1 k2 k3 k4 k5 hHeld jx
  have hS6 := h0.step k6
  have hch : Chg s w w6 := .of_below (hb0.trans (k6.mono z0))
  obtain ⟨q, hq⟩ : ∃ q, putErr L t c x = q := ⟨_, rfl⟩
  have HQ := Lib.hid hq
  rw [hq]
  by_cases h9 : q = 0
  · subst h9
    obtain ⟨⟨t0, t1⟩, ⟨c0, c1⟩, _, _, hl8⟩ := putErr_zero hq
    have hAf : putAfter L t c x = upd L (t.toNat * 8 + c.toNat) (L (t.toNat * 8 + c.toNat) ++ [x]) := by unfold putAfter; rw [if_pos hq]
    clear hq
    obtain ⟨tn, rfl⟩ : ∃ n : Nat, t = n := ⟨t.toNat, by omega⟩
    obtain ⟨cn, rfl⟩ : ∃ n : Nat, c = n := ⟨c.toNat, by omega⟩
    rw [Int.toNat_natCast, Int.toNat_natCast] at hl8 hAf
    have HAF := Lib.hid hAf
    clear hAf
    obtain ⟨v, hv, hfz, hr⟩ := hS6.row (tn * 8 + cn) (by omega)
    obtain ⟨l, hl⟩ : ∃ l, L (tn * 8 + cn) = l := ⟨_, rfl⟩
    rw [hl] at hr hl8
    have HR := Lib.hid hr
    have HLL := Lib.hid hl
    obtain ⟨sa, sc, rfl, _⟩ := hr
    clear hl
    have b0 : w6.cell? ⟨w.heap.size, 0, none⟩ = some (.pointer (some ⟨s, 0, none⟩)) := (hA.below k6 hA.lt).cell 0 rfl
    have b1 : w6.cell? ⟨w.heap.size + 1, 0, none⟩ = some (.int .i64 tn) := (hB.below k6 hB.lt).cell 0 rfl
    have b2 : w6.cell? ⟨w.heap.size + 1 + 1, 0, none⟩ = some (.int .i64 cn) := (hC.below k6 hC.lt).cell 0 rfl
    have b3 : w6.cell? ⟨w.heap.size + 1 + 1 + 1, 0, none⟩ = some (.int .i64 x) := (hD.below k6 hD.lt).cell 0 rfl
    have hH6 : P3S w.heap.size (w.heap.size + 1) (w.heap.size + 1 + 1) (w.heap.size + 1 + 1 + 1) s tn cn x w6 := ⟨b0, b1, b2, b3⟩
    have HLen := Lib.hid (intVals_len .i64 l)
    have kY : Below w6.heap.size w6 w6.drew := (Below.refl _ w6).drew
    have hs6 := hS6.lt
    go_wp2_with fail
    refine wp_region_held_drew (S := P3S w.heap.size (w.heap.size + 1) (w.heap.size + 1 + 1) (w.heap.size + 1 + 1 + 1) s tn cn x) (by kernel_rfl) ⟨b0, b1, b2, b3⟩ (fun hHeld => ?_)
    change wpAnyH _ _ _ _ _ _ _ _ w6.drew
    generalize w6.drew = Y at kY hHeld ⊢
    clear b0 b1 b2 b3
    refine wpAnyH_take (i := 0) (v := ?_) rfl (by kernel_rfl) (by kernel_rfl) (by kernel_rfl) (fun _ _ _ h => h) (Or.inl ⟨by rfl, ?_⟩) (by assumption) ?_
    rotate_left
    · (intro Y hSw; (try dsimp only at hSw); obtain ⟨hS0, hS1, hS2, hS3⟩ := hSw; go_simp; try with_reducible rfl)
    try simp only [Act.put, List.getElem_toArray, List.getElem_cons_zero, List.getElem_cons_succ, List.setIfInBounds_toArray, List.set_cons_zero, List.set_cons_succ]
    refine wpAnyH_take (i := 1) (v := ?_) rfl (by kernel_rfl) (by kernel_rfl) (by kernel_rfl) (fun _ _ _ h => h) (Or.inl ⟨by rfl, ?_⟩) (by assumption) ?_
    rotate_left
    · (intro Y hSw; (try dsimp only at hSw); obtain ⟨hS0, hS1, hS2, hS3⟩ := hSw; go_simp; try with_reducible rfl)
    try simp only [Act.put, List.getElem_toArray, List.getElem_cons_zero, List.getElem_cons_succ, List.setIfInBounds_toArray, List.set_cons_zero, List.set_cons_succ]
    refine wpAnyH_take (i := 2) (v := ?_) rfl (by kernel_rfl) (by kernel_rfl) (by kernel_rfl) (fun _ _ _ h => h) (Or.inl ⟨by rfl, ?_⟩) (by assumption) ?_
    rotate_left
    · (intro Y hSw; (try dsimp only at hSw); obtain ⟨hS0, hS1, hS2, hS3⟩ := hSw; go_simp; try with_reducible rfl)
    try simp only [Act.put, List.getElem_toArray, List.getElem_cons_zero, List.getElem_cons_succ, List.setIfInBounds_toArray, List.set_cons_zero, List.set_cons_succ]
    refine wpAnyH_take (i := 3) (v := ?_) rfl (by kernel_rfl) (by kernel_rfl) (by kernel_rfl) (fun _ _ _ h => h) (Or.inl ⟨by rfl, ?_⟩) (by assumption) ?_
    rotate_left
    · (intro Y hSw; (try dsimp only at hSw); obtain ⟨hS0, hS1, hS2, hS3⟩ := hSw; go_simp; try with_reducible rfl)
    try simp only [Act.put, List.getElem_toArray, List.getElem_cons_zero, List.getElem_cons_succ, List.setIfInBounds_toArray, List.set_cons_zero, List.set_cons_succ]
    refine wpAnyH_take (i := 4) (v := ?_) rfl (by kernel_rfl) (by kernel_rfl) (by kernel_rfl) (fun _ _ _ h => h) (Or.inl ⟨by rfl, ?_⟩) (by assumption) ?_
    rotate_left
    · (intro Y hSw; (try dsimp only at hSw); obtain ⟨hS0, hS1, hS2, hS3⟩ := hSw; go_simp; try with_reducible rfl)
    try simp only [Act.put, List.getElem_toArray, List.getElem_cons_zero, List.getElem_cons_succ, List.setIfInBounds_toArray, List.set_cons_zero, List.set_cons_succ]
    refine wpAnyH_take (i := 6) (v := ?_) rfl (by kernel_rfl) (by kernel_rfl) (by kernel_rfl) (fun _ _ _ h => h) (Or.inl ⟨by rfl, ?_⟩) (by assumption) ?_
    rotate_left
    · (intro Y hSw; (try dsimp only at hSw); obtain ⟨hS0, hS1, hS2, hS3⟩ := hSw; go_simp; try with_reducible rfl)
    try simp only [Act.put, List.getElem_toArray, List.getElem_cons_zero, List.getElem_cons_succ, List.setIfInBounds_toArray, List.set_cons_zero, List.set_cons_succ]
    refine wpAnyH_take (i := 7) (v := ?_) rfl (by kernel_rfl) (by kernel_rfl) (by kernel_rfl) (fun _ _ _ h => h) (Or.inl ⟨by rfl, ?_⟩) (by assumption) ?_
    rotate_left
    · (intro Y hSw; (try dsimp only at hSw); obtain ⟨hS0, hS1, hS2, hS3⟩ := hSw; go_simp; try with_reducible rfl)
    try simp only [Act.put, List.getElem_toArray, List.getElem_cons_zero, List.getElem_cons_succ, List.setIfInBounds_toArray, List.set_cons_zero, List.set_cons_succ]
    refine wpAnyH_take (i := 8) (v := ?_) rfl (by kernel_rfl) (by kernel_rfl) (by kernel_rfl) (fun _ _ _ h => h) (Or.inl ⟨by rfl, ?_⟩) (by assumption) ?_
    rotate_left
    · (intro Y hSw; (try dsimp only at hSw); obtain ⟨hS0, hS1, hS2, hS3⟩ := hSw; go_simp; try with_reducible rfl)
    try simp only [Act.put, List.getElem_toArray, List.getElem_cons_zero, List.getElem_cons_succ, List.setIfInBounds_toArray, List.set_cons_zero, List.set_cons_succ]
    refine wpAnyH_take (i := 9) (v := ?_) rfl (by kernel_rfl) (by kernel_rfl) (by kernel_rfl) (fun _ _ _ h => h) (Or.inl ⟨by rfl, ?_⟩) (by assumption) ?_
    rotate_left
    · (intro Y hSw; (try dsimp only at hSw); obtain ⟨hS0, hS1, hS2, hS3⟩ := hSw; go_simp; try with_reducible rfl)
    try simp only [Act.put, List.getElem_toArray, List.getElem_cons_zero, List.getElem_cons_succ, List.setIfInBounds_toArray, List.set_cons_zero, List.set_cons_succ]
    refine wpAnyH_take (i := 10) (v := ?_) rfl (by kernel_rfl) (by kernel_rfl) (by kernel_rfl) (fun _ _ _ h => h) (Or.inl ⟨by rfl, ?_⟩) (by assumption) ?_
    rotate_left
    · (intro Y hSw; (try dsimp only at hSw); obtain ⟨hS0, hS1, hS2, hS3⟩ := hSw; go_simp; try with_reducible rfl)
    try simp only [Act.put, List.getElem_toArray, List.getElem_cons_zero, List.getElem_cons_succ, List.setIfInBounds_toArray, List.set_cons_zero, List.set_cons_succ]
    refine wpAnyH_take (i := 15) (v := ?_) rfl (by kernel_rfl) (by kernel_rfl) (by kernel_rfl) (fun _ _ _ h => h) (Or.inl ⟨by rfl, ?_⟩) (by assumption) ?_
    rotate_left
    · (intro Y hSw; (try dsimp only at hSw); obtain ⟨hS0, hS1, hS2, hS3⟩ := hSw; go_simp; try with_reducible rfl)
    try simp only [Act.put, List.getElem_toArray, List.getElem_cons_zero, List.getElem_cons_succ, List.setIfInBounds_toArray, List.set_cons_zero, List.set_cons_succ]
    refine wpAnyH_ready (rs := [5, 16]) (by kernel_rfl) (by simp) ?_
    refine AllReadyH.cons rfl (fun K hK => ?_) (AllReadyH.cons rfl (fun K hK => ?_) AllReadyH.nil)
    · go_simp
      refine (on_calls s tn cn (by omega) (by omega) _).mono ?_; rintro e _ ⟨rfl, rfl⟩
      go_wp2_with fail
      refine hK.out _ _ (hHeld) (fun hHeld => ?_)
      clear hK K
      try simp only [Act.put, List.getElem_toArray, List.getElem_cons_zero, List.getElem_cons_succ, List.setIfInBounds_toArray, List.set_cons_zero, List.set_cons_succ]
      refine wpAnyH_ready (rs := [11, 16]) (by kernel_rfl) (by simp) ?_
      refine AllReadyH.cons rfl (fun K hK => ?_) (AllReadyH.cons rfl (fun K hK => ?_) AllReadyH.nil)
      · go_simp
        refine (on_calls s tn cn (by omega) (by omega) _).mono ?_; rintro e _ ⟨rfl, rfl⟩
        go_wp2_with fail
        refine hK.out _ _ (hHeld) (fun hHeld => ?_)
        clear hK K
        try simp only [Act.put, List.getElem_toArray, List.getElem_cons_zero, List.getElem_cons_succ, List.setIfInBounds_toArray, List.set_cons_zero, List.set_cons_succ]
        refine wpAnyH_take (i := 12) (v := ?_) rfl (by kernel_rfl) (by kernel_rfl) (by kernel_rfl) (fun _ _ _ h => h) (Or.inl ⟨by rfl, ?_⟩) (by assumption) ?_
        rotate_left
        · (intro Y hSw; (try dsimp only at hSw); obtain ⟨hS0, hS1, hS2, hS3⟩ := hSw; go_simp; try with_reducible rfl)
        try simp only [Act.put, List.getElem_toArray, List.getElem_cons_zero, List.getElem_cons_succ, List.setIfInBounds_toArray, List.set_cons_zero, List.set_cons_succ]
        refine wpAnyH_ready (rs := [13, 16]) (by kernel_rfl) (by simp) ?_
        refine AllReadyH.cons rfl (fun K hK => ?_) (AllReadyH.cons rfl (fun K hK => ?_) AllReadyH.nil)
        · go_simp
          have hcv : World.cell? _ ⟨s, tn * 8 + cn, none⟩ = some (.slice sa l.length sc) := (kY.cell (p := ⟨s, tn * 8 + cn, none⟩) hs6).trans hv
          go_simp
          refine hK.out _ _ (hHeld) (fun hHeld => ?_)
          clear hK K
          try simp only [Act.put, List.getElem_toArray, List.getElem_cons_zero, List.getElem_cons_succ, List.setIfInBounds_toArray, List.set_cons_zero, List.set_cons_succ]
          clear hcv
          refine wpAnyH_ready (rs := [14, 16]) (by kernel_rfl) (by simp) ?_
          refine AllReadyH.cons rfl (fun K hK => ?_) (AllReadyH.cons rfl (fun K hK => ?_) AllReadyH.nil)
          · go_simp
            refine (clone_ok _ _ w6.heap.size _ kY.size (by omega) (HR.out.below kY (Nat.le_refl _))).mono ?_; rintro e Y1 ⟨v', rfl, ho, kc⟩
            replace ho := owns_weaken ho kY.size
            have hS1 := hHeld.step kc
            replace kY := kY.trans (kc.mono kY.size)
            go_wp2_with fail
            refine hK.out _ _ (hS1) (fun hHeld => ?_)
            clear hK K
            try simp only [Act.put, List.getElem_toArray, List.getElem_cons_zero, List.getElem_cons_succ, List.setIfInBounds_toArray, List.set_cons_zero, List.set_cons_succ]
            refine wpAnyH_ready (rs := [16]) (by kernel_rfl) (by simp) ?_
            refine AllReadyH.cons rfl (fun K hK => ?_) AllReadyH.nil
            go_simp
            have jl : Below Y1.heap.size Y1 (Y1.alloc (.cells #[.int .i64 x] 3)) := (Below.refl _ Y1).alloc (Nat.le_refl _) _
            have hx := Blk.new Y1 #[.int .i64 x] 3
            have hS1 := hHeld.step jl
            replace kY := kY.trans (jl.mono kY.size)
            replace ho := owns_below ho jl (Nat.le_refl _)
            refine hK.out _ _ (hS1) (fun hHeld => ?_)
            clear hK K
            try simp only [Act.put, List.getElem_toArray, List.getElem_cons_zero, List.getElem_cons_succ, List.setIfInBounds_toArray, List.set_cons_zero, List.set_cons_succ]
            refine wpAnyH_ready (rs := [17]) (by kernel_rfl) (by simp) ?_
            refine AllReadyH.cons rfl (fun K hK => ?_) AllReadyH.nil
            rw [if_pos (by rfl)]
            refine wp_append_rowO _ _ 35 rfl w6.heap.size Try.underlying35 info64 l.length (intVals .i64 l) rfl ho (World.heap _).size 1 [.int .i64 x] rfl (rowOf hx) rfl (by intro u hu; rw [List.mem_singleton.1 hu]; rfl) (by unfold maxLen; omega) (by omega) kY.size ?_
            intro v2 W2 ho2 hg2
            replace kY := kY.appended ho hg2 (Nat.le_refl _) kY.size
            clear hg2 ho hx
            obtain ⟨a2, c2, rfl, _⟩ := (RowAt.of_owns ho2 (Nat.le_refl _)).len
            have hH2 := hH6.step kY
            refine hK.out _ _ (hH2) (fun hHeld => ?_)
            clear hK K
            try simp only [Act.put, List.getElem_toArray, List.getElem_cons_zero, List.getElem_cons_succ, List.setIfInBounds_toArray, List.set_cons_zero, List.set_cons_succ]
            refine wpAnyH_take (i := 18) (v := ?_) rfl (by kernel_rfl) (by kernel_rfl) (by kernel_rfl) (fun _ _ _ h => h) (Or.inl ⟨by rfl, ?_⟩) (by assumption) ?_
            rotate_left
            · (intro Y hSw; (try dsimp only at hSw); obtain ⟨hS0, hS1, hS2, hS3⟩ := hSw; go_simp; try with_reducible rfl)
            try simp only [Act.put, List.getElem_toArray, List.getElem_cons_zero, List.getElem_cons_succ, List.setIfInBounds_toArray, List.set_cons_zero, List.set_cons_succ]
            refine wpAnyH_ready (rs := [19]) (by kernel_rfl) (by simp) ?_
            refine AllReadyH.cons rfl (fun K hK => ?_) AllReadyH.nil
            go_simp
            have hcw : W2.cell? ⟨s, tn * 8 + cn, none⟩ = some (.slice sa l.length sc) := (kY.cell (p := ⟨s, tn * 8 + cn, none⟩) hs6).trans hv
            have hfw : W2.frozen? ⟨s, tn * 8 + cn, none⟩ = false := (kY.frozen (p := ⟨s, tn * 8 + cn, none⟩) hs6).trans hfz
            have hS8 := (hS6.step kY).set (tn * 8 + cn) (by omega) (v := .slice a2 (l.length + 1) c2) (l ++ [x]) (by rw [show intVals .i64 (l ++ [x]) = intVals .i64 l ++ [.int .i64 x] by simp [intVals], List.length_append]; exact RowAt.of_owns ho2 (Nat.le_refl _))
            have hch8 : Chg s w (W2.setCell ⟨s, tn * 8 + cn, none⟩ (.slice a2 (l.length + 1) c2)) := (hch.more kY hch.size).setc _ _ rfl
            have hoff : ∀ g, g < w.heap.size → Off g w s → Off g (W2.setCell ⟨s, tn * 8 + cn, none⟩ (.slice a2 (l.length + 1) c2)) s := fun g hg ho => by
              refine Off.set (ho.of ((kY.block s hs6).trans ((k6.block s (by omega)).trans (hb0.block s hsl)))) _ ?_ (by rw [hcw]; rfl)
              intro a n c e hn
              simp only [Value.slice.injEq] at e
              obtain ⟨rfl, _⟩ := e
              have := (owns_block ho2 a.block rfl).1
              omega
            have HOF := Lib.hid hoff
            clear ho2 hS6 hoff
            go_simp
            refine hK.out _ _ (hH2.set ⟨s, tn * 8 + cn, none⟩ (.slice a2 (l.length + 1) c2) (by show _ ≠ s; omega) (by show _ ≠ s; omega) (by show _ ≠ s; omega) (by show _ ≠ s; omega)) (fun hHeld => ?_)
            clear hK K
            try simp only [Act.put, List.getElem_toArray, List.getElem_cons_zero, List.getElem_cons_succ, List.setIfInBounds_toArray, List.set_cons_zero, List.set_cons_succ]
            refine wpAnyH_done (by kernel_rfl) ?_ _
            go_wp2_with fail
            go_ret
            exact ⟨by rw [HQ.out]; rfl, by rw [HAF.out, HLL.out]; exact hS8, hch8, HOF.out⟩
          · go_simp
            have jl : Below Y.heap.size Y (Y.alloc (.cells #[.int .i64 x] 3)) := (Below.refl _ Y).alloc (Nat.le_refl _) _
            have hx := Blk.new Y #[.int .i64 x] 3
            have hS1 := hHeld.step jl
            replace kY := kY.trans (jl.mono kY.size)
            refine hK.out _ _ (hS1) (fun hHeld => ?_)
            clear hK K
            try simp only [Act.put, List.getElem_toArray, List.getElem_cons_zero, List.getElem_cons_succ, List.setIfInBounds_toArray, List.set_cons_zero, List.set_cons_succ]
            refine wpAnyH_ready (rs := [14]) (by kernel_rfl) (by simp) ?_
            refine AllReadyH.cons rfl (fun K hK => ?_) AllReadyH.nil
            go_simp
            refine (clone_ok _ _ w6.heap.size _ kY.size (by omega) (HR.out.below kY (Nat.le_refl _))).mono ?_; rintro e Y1 ⟨v', rfl, ho, kc⟩
            replace ho := owns_weaken ho kY.size
            have hS1 := hHeld.step kc
            replace kY := kY.trans (kc.mono kY.size)
            replace hx := hx.below kc hx.lt
            go_wp2_with fail
            refine hK.out _ _ (hS1) (fun hHeld => ?_)
            clear hK K
            try simp only [Act.put, List.getElem_toArray, List.getElem_cons_zero, List.getElem_cons_succ, List.setIfInBounds_toArray, List.set_cons_zero, List.set_cons_succ]
            refine wpAnyH_ready (rs := [17]) (by kernel_rfl) (by simp) ?_
            refine AllReadyH.cons rfl (fun K hK => ?_) AllReadyH.nil
            rw [if_pos (by rfl)]
            refine wp_append_rowO _ _ 35 rfl w6.heap.size Try.underlying35 info64 l.length (intVals .i64 l) rfl ho (World.heap _).size 1 [.int .i64 x] rfl (rowOf hx) rfl (by intro u hu; rw [List.mem_singleton.1 hu]; rfl) (by unfold maxLen; omega) (by omega) kY.size ?_
            intro v2 W2 ho2 hg2
            replace kY := kY.appended ho hg2 (Nat.le_refl _) kY.size
            clear hg2 ho hx
            obtain ⟨a2, c2, rfl, _⟩ := (RowAt.of_owns ho2 (Nat.le_refl _)).len
            have hH2 := hH6.step kY
            refine hK.out _ _ (hH2) (fun hHeld => ?_)
            clear hK K
            try simp only [Act.put, List.getElem_toArray, List.getElem_cons_zero, List.getElem_cons_succ, List.setIfInBounds_toArray, List.set_cons_zero, List.set_cons_succ]
            refine wpAnyH_take (i := 18) (v := ?_) rfl (by kernel_rfl) (by kernel_rfl) (by kernel_rfl) (fun _ _ _ h => h) (Or.inl ⟨by rfl, ?_⟩) (by assumption) ?_
            rotate_left
            · (intro Y hSw; (try dsimp only at hSw); obtain ⟨hS0, hS1, hS2, hS3⟩ := hSw; go_simp; try with_reducible rfl)
            try simp only [Act.put, List.getElem_toArray, List.getElem_cons_zero, List.getElem_cons_succ, List.setIfInBounds_toArray, List.set_cons_zero, List.set_cons_succ]
            refine wpAnyH_ready (rs := [19]) (by kernel_rfl) (by simp) ?_
            refine AllReadyH.cons rfl (fun K hK => ?_) AllReadyH.nil
            go_simp
            have hcw : W2.cell? ⟨s, tn * 8 + cn, none⟩ = some (.slice sa l.length sc) := (kY.cell (p := ⟨s, tn * 8 + cn, none⟩) hs6).trans hv
            have hfw : W2.frozen? ⟨s, tn * 8 + cn, none⟩ = false := (kY.frozen (p := ⟨s, tn * 8 + cn, none⟩) hs6).trans hfz
            have hS8 := (hS6.step kY).set (tn * 8 + cn) (by omega) (v := .slice a2 (l.length + 1) c2) (l ++ [x]) (by rw [show intVals .i64 (l ++ [x]) = intVals .i64 l ++ [.int .i64 x] by simp [intVals], List.length_append]; exact RowAt.of_owns ho2 (Nat.le_refl _))
            have hch8 : Chg s w (W2.setCell ⟨s, tn * 8 + cn, none⟩ (.slice a2 (l.length + 1) c2)) := (hch.more kY hch.size).setc _ _ rfl
            have hoff : ∀ g, g < w.heap.size → Off g w s → Off g (W2.setCell ⟨s, tn * 8 + cn, none⟩ (.slice a2 (l.length + 1) c2)) s := fun g hg ho => by
              refine Off.set (ho.of ((kY.block s hs6).trans ((k6.block s (by omega)).trans (hb0.block s hsl)))) _ ?_ (by rw [hcw]; rfl)
              intro a n c e hn
              simp only [Value.slice.injEq] at e
              obtain ⟨rfl, _⟩ := e
              have := (owns_block ho2 a.block rfl).1
              omega
            have HOF := Lib.hid hoff
            clear ho2 hS6 hoff
            go_simp
            refine hK.out _ _ (hH2.set ⟨s, tn * 8 + cn, none⟩ (.slice a2 (l.length + 1) c2) (by show _ ≠ s; omega) (by show _ ≠ s; omega) (by show _ ≠ s; omega) (by show _ ≠ s; omega)) (fun hHeld => ?_)
            clear hK K
            try simp only [Act.put, List.getElem_toArray, List.getElem_cons_zero, List.getElem_cons_succ, List.setIfInBounds_toArray, List.set_cons_zero, List.set_cons_succ]
            refine wpAnyH_done (by kernel_rfl) ?_ _
            go_wp2_with fail
            go_ret
            exact ⟨by rw [HQ.out]; rfl, by rw [HAF.out, HLL.out]; exact hS8, hch8, HOF.out⟩
        · go_simp
          have jl : Below Y.heap.size Y (Y.alloc (.cells #[.int .i64 x] 3)) := (Below.refl _ Y).alloc (Nat.le_refl _) _
          have hx := Blk.new Y #[.int .i64 x] 3
          have hS1 := hHeld.step jl
          replace kY := kY.trans (jl.mono kY.size)
          refine hK.out _ _ (hS1) (fun hHeld => ?_)
          clear hK K
          try simp only [Act.put, List.getElem_toArray, List.getElem_cons_zero, List.getElem_cons_succ, List.setIfInBounds_toArray, List.set_cons_zero, List.set_cons_succ]
          refine wpAnyH_ready (rs := [13]) (by kernel_rfl) (by simp) ?_
          refine AllReadyH.cons rfl (fun K hK => ?_) AllReadyH.nil
          go_simp
          have hcv : World.cell? _ ⟨s, tn * 8 + cn, none⟩ = some (.slice sa l.length sc) := (kY.cell (p := ⟨s, tn * 8 + cn, none⟩) hs6).trans hv
          go_simp
          refine hK.out _ _ (hHeld) (fun hHeld => ?_)
          clear hK K
          try simp only [Act.put, List.getElem_toArray, List.getElem_cons_zero, List.getElem_cons_succ, List.setIfInBounds_toArray, List.set_cons_zero, List.set_cons_succ]
          clear hcv
          refine wpAnyH_ready (rs := [14]) (by kernel_rfl) (by simp) ?_
          refine AllReadyH.cons rfl (fun K hK => ?_) AllReadyH.nil
          go_simp
          refine (clone_ok _ _ w6.heap.size _ kY.size (by omega) (HR.out.below kY (Nat.le_refl _))).mono ?_; rintro e Y1 ⟨v', rfl, ho, kc⟩
          replace ho := owns_weaken ho kY.size
          have hS1 := hHeld.step kc
          replace kY := kY.trans (kc.mono kY.size)
          replace hx := hx.below kc hx.lt
          go_wp2_with fail
          refine hK.out _ _ (hS1) (fun hHeld => ?_)
          clear hK K
          try simp only [Act.put, List.getElem_toArray, List.getElem_cons_zero, List.getElem_cons_succ, List.setIfInBounds_toArray, List.set_cons_zero, List.set_cons_succ]
          refine wpAnyH_ready (rs := [17]) (by kernel_rfl) (by simp) ?_
          refine AllReadyH.cons rfl (fun K hK => ?_) AllReadyH.nil
          rw [if_pos (by rfl)]
          refine wp_append_rowO _ _ 35 rfl w6.heap.size Try.underlying35 info64 l.length (intVals .i64 l) rfl ho (World.heap _).size 1 [.int .i64 x] rfl (rowOf hx) rfl (by intro u hu; rw [List.mem_singleton.1 hu]; rfl) (by unfold maxLen; omega) (by omega) kY.size ?_
          intro v2 W2 ho2 hg2
          replace kY := kY.appended ho hg2 (Nat.le_refl _) kY.size
          clear hg2 ho hx
          obtain ⟨a2, c2, rfl, _⟩ := (RowAt.of_owns ho2 (Nat.le_refl _)).len
          have hH2 := hH6.step kY
          refine hK.out _ _ (hH2) (fun hHeld => ?_)
          clear hK K
          try simp only [Act.put, List.getElem_toArray, List.getElem_cons_zero, List.getElem_cons_succ, List.setIfInBounds_toArray, List.set_cons_zero, List.set_cons_succ]
          refine wpAnyH_take (i := 18) (v := ?_) rfl (by kernel_rfl) (by kernel_rfl) (by kernel_rfl) (fun _ _ _ h => h) (Or.inl ⟨by rfl, ?_⟩) (by assumption) ?_
          rotate_left
          · (intro Y hSw; (try dsimp only at hSw); obtain ⟨hS0, hS1, hS2, hS3⟩ := hSw; go_simp; try with_reducible rfl)
          try simp only [Act.put, List.getElem_toArray, List.getElem_cons_zero, List.getElem_cons_succ, List.setIfInBounds_toArray, List.set_cons_zero, List.set_cons_succ]
          refine wpAnyH_ready (rs := [19]) (by kernel_rfl) (by simp) ?_
          refine AllReadyH.cons rfl (fun K hK => ?_) AllReadyH.nil
          go_simp
          have hcw : W2.cell? ⟨s, tn * 8 + cn, none⟩ = some (.slice sa l.length sc) := (kY.cell (p := ⟨s, tn * 8 + cn, none⟩) hs6).trans hv
          have hfw : W2.frozen? ⟨s, tn * 8 + cn, none⟩ = false := (kY.frozen (p := ⟨s, tn * 8 + cn, none⟩) hs6).trans hfz
          have hS8 := (hS6.step kY).set (tn * 8 + cn) (by omega) (v := .slice a2 (l.length + 1) c2) (l ++ [x]) (by rw [show intVals .i64 (l ++ [x]) = intVals .i64 l ++ [.int .i64 x] by simp [intVals], List.length_append]; exact RowAt.of_owns ho2 (Nat.le_refl _))
          have hch8 : Chg s w (W2.setCell ⟨s, tn * 8 + cn, none⟩ (.slice a2 (l.length + 1) c2)) := (hch.more kY hch.size).setc _ _ rfl
          have hoff : ∀ g, g < w.heap.size → Off g w s → Off g (W2.setCell ⟨s, tn * 8 + cn, none⟩ (.slice a2 (l.length + 1) c2)) s := fun g hg ho => by
            refine Off.set (ho.of ((kY.block s hs6).trans ((k6.block s (by omega)).trans (hb0.block s hsl)))) _ ?_ (by rw [hcw]; rfl)
            intro a n c e hn
            simp only [Value.slice.injEq] at e
            obtain ⟨rfl, _⟩ := e
            have := (owns_block ho2 a.block rfl).1
            omega
          have HOF := Lib.hid hoff
          clear ho2 hS6 hoff
          go_simp
          refine hK.out _ _ (hH2.set ⟨s, tn * 8 + cn, none⟩ (.slice a2 (l.length + 1) c2) (by show _ ≠ s; omega) (by show _ ≠ s; omega) (by show _ ≠ s; omega) (by show _ ≠ s; omega)) (fun hHeld => ?_)
          clear hK K
          try simp only [Act.put, List.getElem_toArray, List.getElem_cons_zero, List.getElem_cons_succ, List.setIfInBounds_toArray, List.set_cons_zero, List.set_cons_succ]
          refine wpAnyH_done (by kernel_rfl) ?_ _
          go_wp2_with fail
          go_ret
          exact ⟨by rw [HQ.out]; rfl, by rw [HAF.out, HLL.out]; exact hS8, hch8, HOF.out⟩
      · go_simp
        have jl : Below Y.heap.size Y (Y.alloc (.cells #[.int .i64 x] 3)) := (Below.refl _ Y).alloc (Nat.le_refl _) _
        have hx := Blk.new Y #[.int .i64 x] 3
        have hS1 := hHeld.step jl
        replace kY := kY.trans (jl.mono kY.size)
        refine hK.out _ _ (hS1) (fun hHeld => ?_)
        clear hK K
        try simp only [Act.put, List.getElem_toArray, List.getElem_cons_zero, List.getElem_cons_succ, List.setIfInBounds_toArray, List.set_cons_zero, List.set_cons_succ]
        refine wpAnyH_ready (rs := [11]) (by kernel_rfl) (by simp) ?_
        refine AllReadyH.cons rfl (fun K hK => ?_) AllReadyH.nil
        go_simp
        refine (on_calls s tn cn (by omega) (by omega) _).mono ?_; rintro e _ ⟨rfl, rfl⟩
        go_wp2_with fail
        refine hK.out _ _ (hHeld) (fun hHeld => ?_)
        clear hK K
        try simp only [Act.put, List.getElem_toArray, List.getElem_cons_zero, List.getElem_cons_succ, List.setIfInBounds_toArray, List.set_cons_zero, List.set_cons_succ]
        refine wpAnyH_take (i := 12) (v := ?_) rfl (by kernel_rfl) (by kernel_rfl) (by kernel_rfl) (fun _ _ _ h => h) (Or.inl ⟨by rfl, ?_⟩) (by assumption) ?_
        rotate_left
        · (intro Y hSw; (try dsimp only at hSw); obtain ⟨hS0, hS1, hS2, hS3⟩ := hSw; go_simp; try with_reducible rfl)
        try simp only [Act.put, List.getElem_toArray, List.getElem_cons_zero, List.getElem_cons_succ, List.setIfInBounds_toArray, List.set_cons_zero, List.set_cons_succ]
        refine wpAnyH_ready (rs := [13]) (by kernel_rfl) (by simp) ?_
        refine AllReadyH.cons rfl (fun K hK => ?_) AllReadyH.nil
        go_simp
        have hcv : World.cell? _ ⟨s, tn * 8 + cn, none⟩ = some (.slice sa l.length sc) := (kY.cell (p := ⟨s, tn * 8 + cn, none⟩) hs6).trans hv
        go_simp
        refine hK.out _ _ (hHeld) (fun hHeld => ?_)
        clear hK K
        try simp only [Act.put, List.getElem_toArray, List.getElem_cons_zero, List.getElem_cons_succ, List.setIfInBounds_toArray, List.set_cons_zero, List.set_cons_succ]
        clear hcv
        refine wpAnyH_ready (rs := [14]) (by kernel_rfl) (by simp) ?_
        refine AllReadyH.cons rfl (fun K hK => ?_) AllReadyH.nil
        go_simp
        refine (clone_ok _ _ w6.heap.size _ kY.size (by omega) (HR.out.below kY (Nat.le_refl _))).mono ?_; rintro e Y1 ⟨v', rfl, ho, kc⟩
        replace ho := owns_weaken ho kY.size
        have hS1 := hHeld.step kc
        replace kY := kY.trans (kc.mono kY.size)
        replace hx := hx.below kc hx.lt
        go_wp2_with fail
        refine hK.out _ _ (hS1) (fun hHeld => ?_)
        clear hK K
        try simp only [Act.put, List.getElem_toArray, List.getElem_cons_zero, List.getElem_cons_succ, List.setIfInBounds_toArray, List.set_cons_zero, List.set_cons_succ]
        refine wpAnyH_ready (rs := [17]) (by kernel_rfl) (by simp) ?_
        refine AllReadyH.cons rfl (fun K hK => ?_) AllReadyH.nil
        rw [if_pos (by rfl)]
        refine wp_append_rowO _ _ 35 rfl w6.heap.size Try.underlying35 info64 l.length (intVals .i64 l) rfl ho (World.heap _).size 1 [.int .i64 x] rfl (rowOf hx) rfl (by intro u hu; rw [List.mem_singleton.1 hu]; rfl) (by unfold maxLen; omega) (by omega) kY.size ?_
        intro v2 W2 ho2 hg2
        replace kY := kY.appended ho hg2 (Nat.le_refl _) kY.size
        clear hg2 ho hx
        obtain ⟨a2, c2, rfl, _⟩ := (RowAt.of_owns ho2 (Nat.le_refl _)).len
        have hH2 := hH6.step kY
        refine hK.out _ _ (hH2) (fun hHeld => ?_)
        clear hK K
        try simp only [Act.put, List.getElem_toArray, List.getElem_cons_zero, List.getElem_cons_succ, List.setIfInBounds_toArray, List.set_cons_zero, List.set_cons_succ]
        refine wpAnyH_take (i := 18) (v := ?_) rfl (by kernel_rfl) (by kernel_rfl) (by kernel_rfl) (fun _ _ _ h => h) (Or.inl ⟨by rfl, ?_⟩) (by assumption) ?_
        rotate_left
        · (intro Y hSw; (try dsimp only at hSw); obtain ⟨hS0, hS1, hS2, hS3⟩ := hSw; go_simp; try with_reducible rfl)
        try simp only [Act.put, List.getElem_toArray, List.getElem_cons_zero, List.getElem_cons_succ, List.setIfInBounds_toArray, List.set_cons_zero, List.set_cons_succ]
        refine wpAnyH_ready (rs := [19]) (by kernel_rfl) (by simp) ?_
        refine AllReadyH.cons rfl (fun K hK => ?_) AllReadyH.nil
        go_simp
        have hcw : W2.cell? ⟨s, tn * 8 + cn, none⟩ = some (.slice sa l.length sc) := (kY.cell (p := ⟨s, tn * 8 + cn, none⟩) hs6).trans hv
        have hfw : W2.frozen? ⟨s, tn * 8 + cn, none⟩ = false := (kY.frozen (p := ⟨s, tn * 8 + cn, none⟩) hs6).trans hfz
        have hS8 := (hS6.step kY).set (tn * 8 + cn) (by omega) (v := .slice a2 (l.length + 1) c2) (l ++ [x]) (by rw [show intVals .i64 (l ++ [x]) = intVals .i64 l ++ [.int .i64 x] by simp [intVals], List.length_append]; exact RowAt.of_owns ho2 (Nat.le_refl _))
        have hch8 : Chg s w (W2.setCell ⟨s, tn * 8 + cn, none⟩ (.slice a2 (l.length + 1) c2)) := (hch.more kY hch.size).setc _ _ rfl
        have hoff : ∀ g, g < w.heap.size → Off g w s → Off g (W2.setCell ⟨s, tn * 8 + cn, none⟩ (.slice a2 (l.length + 1) c2)) s := fun g hg ho => by
          refine Off.set (ho.of ((kY.block s hs6).trans ((k6.block s (by omega)).trans (hb0.block s hsl)))) _ ?_ (by rw [hcw]; rfl)
          intro a n c e hn
          simp only [Value.slice.injEq] at e
          obtain ⟨rfl, _⟩ := e
          have := (owns_block ho2 a.block rfl).1
          omega
        have HOF := Lib.hid hoff
        clear ho2 hS6 hoff
        go_simp
        refine hK.out _ _ (hH2.set ⟨s, tn * 8 + cn, none⟩ (.slice a2 (l.length + 1) c2) (by show _ ≠ s; omega) (by show _ ≠ s; omega) (by show _ ≠ s; omega) (by show _ ≠ s; omega)) (fun hHeld => ?_)
        clear hK K
        try simp only [Act.put, List.getElem_toArray, List.getElem_cons_zero, List.getElem_cons_succ, List.setIfInBounds_toArray, List.set_cons_zero, List.set_cons_succ]
        refine wpAnyH_done (by kernel_rfl) ?_ _
        go_wp2_with fail
        go_ret
        exact ⟨by rw [HQ.out]; rfl, by rw [HAF.out, HLL.out]; exact hS8, hch8, HOF.out⟩
    · go_simp
      have jl : Below Y.heap.size Y (Y.alloc (.cells #[.int .i64 x] 3)) := (Below.refl _ Y).alloc (Nat.le_refl _) _
      have hx := Blk.new Y #[.int .i64 x] 3
      have hS1 := hHeld.step jl
      replace kY := kY.trans (jl.mono kY.size)
      refine hK.out _ _ (hS1) (fun hHeld => ?_)
      clear hK K
      try simp only [Act.put, List.getElem_toArray, List.getElem_cons_zero, List.getElem_cons_succ, List.setIfInBounds_toArray, List.set_cons_zero, List.set_cons_succ]
      refine wpAnyH_ready (rs := [5]) (by kernel_rfl) (by simp) ?_
      refine AllReadyH.cons rfl (fun K hK => ?_) AllReadyH.nil
      go_simp
      refine (on_calls s tn cn (by omega) (by omega) _).mono ?_; rintro e _ ⟨rfl, rfl⟩
      go_wp2_with fail
      refine hK.out _ _ (hHeld) (fun hHeld => ?_)
      clear hK K
      try simp only [Act.put, List.getElem_toArray, List.getElem_cons_zero, List.getElem_cons_succ, List.setIfInBounds_toArray, List.set_cons_zero, List.set_cons_succ]
      refine wpAnyH_ready (rs := [11]) (by kernel_rfl) (by simp) ?_
      refine AllReadyH.cons rfl (fun K hK => ?_) AllReadyH.nil
      go_simp
      refine (on_calls s tn cn (by omega) (by omega) _).mono ?_; rintro e _ ⟨rfl, rfl⟩
      go_wp2_with fail
      refine hK.out _ _ (hHeld) (fun hHeld => ?_)
      clear hK K
      try simp only [Act.put, List.getElem_toArray, List.getElem_cons_zero, List.getElem_cons_succ, List.setIfInBounds_toArray, List.set_cons_zero, List.set_cons_succ]
      refine wpAnyH_take (i := 12) (v := ?_) rfl (by kernel_rfl) (by kernel_rfl) (by kernel_rfl) (fun _ _ _ h => h) (Or.inl ⟨by rfl, ?_⟩) (by assumption) ?_
      rotate_left
      · (intro Y hSw; (try dsimp only at hSw); obtain ⟨hS0, hS1, hS2, hS3⟩ := hSw; go_simp; try with_reducible rfl)
      try simp only [Act.put, List.getElem_toArray, List.getElem_cons_zero, List.getElem_cons_succ, List.setIfInBounds_toArray, List.set_cons_zero, List.set_cons_succ]
      refine wpAnyH_ready (rs := [13]) (by kernel_rfl) (by simp) ?_
      refine AllReadyH.cons rfl (fun K hK => ?_) AllReadyH.nil
      go_simp
      have hcv : World.cell? _ ⟨s, tn * 8 + cn, none⟩ = some (.slice sa l.length sc) := (kY.cell (p := ⟨s, tn * 8 + cn, none⟩) hs6).trans hv
      go_simp
      refine hK.out _ _ (hHeld) (fun hHeld => ?_)
      clear hK K
      try simp only [Act.put, List.getElem_toArray, List.getElem_cons_zero, List.getElem_cons_succ, List.setIfInBounds_toArray, List.set_cons_zero, List.set_cons_succ]
      clear hcv
      refine wpAnyH_ready (rs := [14]) (by kernel_rfl) (by simp) ?_
      refine AllReadyH.cons rfl (fun K hK => ?_) AllReadyH.nil
      go_simp
      refine (clone_ok _ _ w6.heap.size _ kY.size (by omega) (HR.out.below kY (Nat.le_refl _))).mono ?_; rintro e Y1 ⟨v', rfl, ho, kc⟩
      replace ho := owns_weaken ho kY.size
      have hS1 := hHeld.step kc
      replace kY := kY.trans (kc.mono kY.size)
      replace hx := hx.below kc hx.lt
      go_wp2_with fail
      refine hK.out _ _ (hS1) (fun hHeld => ?_)
      clear hK K
      try simp only [Act.put, List.getElem_toArray, List.getElem_cons_zero, List.getElem_cons_succ, List.setIfInBounds_toArray, List.set_cons_zero, List.set_cons_succ]
      refine wpAnyH_ready (rs := [17]) (by kernel_rfl) (by simp) ?_
      refine AllReadyH.cons rfl (fun K hK => ?_) AllReadyH.nil
      rw [if_pos (by rfl)]
      refine wp_append_rowO _ _ 35 rfl w6.heap.size Try.underlying35 info64 l.length (intVals .i64 l) rfl ho (World.heap _).size 1 [.int .i64 x] rfl (rowOf hx) rfl (by intro u hu; rw [List.mem_singleton.1 hu]; rfl) (by unfold maxLen; omega) (by omega) kY.size ?_
      intro v2 W2 ho2 hg2
      replace kY := kY.appended ho hg2 (Nat.le_refl _) kY.size
      clear hg2 ho hx
      obtain ⟨a2, c2, rfl, _⟩ := (RowAt.of_owns ho2 (Nat.le_refl _)).len
      have hH2 := hH6.step kY
      refine hK.out _ _ (hH2) (fun hHeld => ?_)
      clear hK K
      try simp only [Act.put, List.getElem_toArray, List.getElem_cons_zero, List.getElem_cons_succ, List.setIfInBounds_toArray, List.set_cons_zero, List.set_cons_succ]
      refine wpAnyH_take (i := 18) (v := ?_) rfl (by kernel_rfl) (by kernel_rfl) (by kernel_rfl) (fun _ _ _ h => h) (Or.inl ⟨by rfl, ?_⟩) (by assumption) ?_
      rotate_left
      · (intro Y hSw; (try dsimp only at hSw); obtain ⟨hS0, hS1, hS2, hS3⟩ := hSw; go_simp; try with_reducible rfl)
      try simp only [Act.put, List.getElem_toArray, List.getElem_cons_zero, List.getElem_cons_succ, List.setIfInBounds_toArray, List.set_cons_zero, List.set_cons_succ]
      refine wpAnyH_ready (rs := [19]) (by kernel_rfl) (by simp) ?_
      refine AllReadyH.cons rfl (fun K hK => ?_) AllReadyH.nil
      go_simp
      have hcw : W2.cell? ⟨s, tn * 8 + cn, none⟩ = some (.slice sa l.length sc) := (kY.cell (p := ⟨s, tn * 8 + cn, none⟩) hs6).trans hv
      have hfw : W2.frozen? ⟨s, tn * 8 + cn, none⟩ = false := (kY.frozen (p := ⟨s, tn * 8 + cn, none⟩) hs6).trans hfz
      have hS8 := (hS6.step kY).set (tn * 8 + cn) (by omega) (v := .slice a2 (l.length + 1) c2) (l ++ [x]) (by rw [show intVals .i64 (l ++ [x]) = intVals .i64 l ++ [.int .i64 x] by simp [intVals], List.length_append]; exact RowAt.of_owns ho2 (Nat.le_refl _))
      have hch8 : Chg s w (W2.setCell ⟨s, tn * 8 + cn, none⟩ (.slice a2 (l.length + 1) c2)) := (hch.more kY hch.size).setc _ _ rfl
      have hoff : ∀ g, g < w.heap.size → Off g w s → Off g (W2.setCell ⟨s, tn * 8 + cn, none⟩ (.slice a2 (l.length + 1) c2)) s := fun g hg ho => by
        refine Off.set (ho.of ((kY.block s hs6).trans ((k6.block s (by omega)).trans (hb0.block s hsl)))) _ ?_ (by rw [hcw]; rfl)
        intro a n c e hn
        simp only [Value.slice.injEq] at e
        obtain ⟨rfl, _⟩ := e
        have := (owns_block ho2 a.block rfl).1
        omega
      have HOF := Lib.hid hoff
      clear ho2 hS6 hoff
      go_simp
      refine hK.out _ _ (hH2.set ⟨s, tn * 8 + cn, none⟩ (.slice a2 (l.length + 1) c2) (by show _ ≠ s; omega) (by show _ ≠ s; omega) (by show _ ≠ s; omega) (by show _ ≠ s; omega)) (fun hHeld => ?_)
      clear hK K
      try simp only [Act.put, List.getElem_toArray, List.getElem_cons_zero, List.getElem_cons_succ, List.setIfInBounds_toArray, List.set_cons_zero, List.set_cons_succ]
      refine wpAnyH_done (by kernel_rfl) ?_ _
      go_wp2_with fail
      go_ret
      exact ⟨by rw [HQ.out]; rfl, by rw [HAF.out, HLL.out]; exact hS8, hch8, HOF.out⟩
  · have hAf : putAfter L t c x = L := by unfold putAfter; rw [if_neg (by rw [hq]; exact h9)]
    have HAF := Lib.hid hAf
    clear hAf hq
    have hq0 : (q == 0) = false := by simpa using h9
    go_wp2_with fail
    go_ret
    exact ⟨by rw [HQ.out]; rfl, by rw [HAF.out]; exact hS6, hch, fun g _ ho => ho.of ((k6.block s (by omega)).trans (hb0.block s hsl))⟩
end Go.Proofs.Ytkilmppmghkigaa
