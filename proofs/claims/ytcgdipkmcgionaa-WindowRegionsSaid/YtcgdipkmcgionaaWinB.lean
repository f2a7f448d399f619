/-
  Package window: what a page may be.
-/
import Derived.Test.YtcgdipkmcgionaaWinA
import Derived.Deep.RegionHeld3
namespace Go.Proofs.Ytcgdipkmcgionaa
open Go.RowKit
set_option maxHeartbeats 4000000

theorem k3 (s page from' : Int) (w : World) : Calls Try.prog 39 #[.agg #[.int .i64 s], .int .i64 page, .int .i64 from'] w fun e w' => e = .returned (.tuple #[.agg #[.int .i64 0, .int .i64 0, .int .i64 0, .int .i64 from'], .bool (decide (256 ≤ from' ∧ from' < 4096))]) ∧ Below w.heap.size w w' := by
  by_cases h : 256 ≤ from'
  · have hd : decide (256 ≤ from') = true := by simpa using h
    go_enter Try.func39, Try.ntmps39
    go_wp2_with fail
    refine bodyPost_ret (v := .tuple #[.agg #[.int .i64 0, .int .i64 0, .int .i64 0, .int .i64 from'], .bool (decide (from' < 4096))]) ?_ rfl ⟨by simp [h], ((Below.refl _ w).alloc (Nat.le_refl _) _).alloc (by simp) _⟩
    simp [results, Try.results39, go_sem]
  · have hd : decide (256 ≤ from') = false := by simpa using h
    go_enter Try.func39, Try.ntmps39
    go_wp2_with fail
    refine bodyPost_ret (v := .tuple #[.agg #[.int .i64 0, .int .i64 0, .int .i64 0, .int .i64 from'], .bool false]) ?_ rfl ⟨by simp, ((Below.refl _ w).alloc (Nat.le_refl _) _).alloc (by simp) _⟩
    simp [results, Try.results39, go_sem]
/-- What a cell holds, or nothing known. -/
def cellOr (W : World) (b i : Nat) : Value := (W.cell? ⟨b, i, none⟩).getD undef
theorem cellOr_of {W : World} {b i : Nat} {v : Value} (h : W.cell? ⟨b, i, none⟩ = some v) : W.cell? ⟨b, i, none⟩ = some (cellOr W b i) := by unfold cellOr; rw [h]; rfl
theorem below_step {B n : Nat} {w0 W W1 : World} (hb : Below n W W1) (hn : n = W.heap.size) (hB : B ≤ w0.heap.size) (h : Below B w0 W) : Below B w0 W1 := h.trans (hb.mono (by have := h.size; omega))
theorem below_made {B : Nat} {w0 W : World} (hB : B ≤ w0.heap.size) (o : Obj) (h : Below B w0 W) : Below B w0 (W.alloc o) := h.alloc (Nat.le_trans hB h.size) o
/-- Nothing below B has turned since w0; block b (from B on) has n cells. -/
def Kept (w0 : World) (B b n : Nat) (W : World) : Prop := B ≤ w0.heap.size ∧ B ≤ b ∧ Below B w0 W ∧ ∃ cs t, cs.size = n ∧ Blk W b cs t
theorem Kept.first {w0 : World} {B b : Nat} {cs : Array Value} {t : TypeId} (h1 : B ≤ w0.heap.size) (h2 : B ≤ b) (h : Blk w0 b cs t) (d : Nat) : Kept w0 B b cs.size (w0.drewN d) := ⟨h1, h2, (Below.refl _ _).drewN d, cs, t, rfl, h⟩
theorem Kept.step {w0 W W1 : World} {B b n m : Nat} (hb : Below m W W1) (hm : m = W.heap.size) (h : Kept w0 B b n W) : Kept w0 B b n W1 := by
  obtain ⟨h1, h2, h3, cs, t, h4, h5⟩ := h
  subst hm
  exact ⟨h1, h2, below_step hb rfl h1 h3, cs, t, h4, h5.below hb h5.lt⟩
theorem Kept.made {w0 W : World} {B b n : Nat} (o : Obj) (h : Kept w0 B b n W) : Kept w0 B b n (W.alloc o) := by
  obtain ⟨h1, h2, h3, cs, t, h4, h5⟩ := h
  exact ⟨h1, h2, below_made h1 o h3, cs, t, h4, h5.alloc o⟩
theorem Kept.set {w0 W : World} {B b n : Nat} (i : Nat) (v : Value) (h : Kept w0 B b n W) : Kept w0 B b n (W.setCell ⟨b, i, none⟩ v) := by
  obtain ⟨h1, h2, h3, cs, t, h4, h5⟩ := h
  exact ⟨h1, h2, h3.setCell (p := ⟨b, i, none⟩) h2 v, _, t, by simp [h4], h5.set i v⟩
theorem Kept.cell {w0 W : World} {B b n i : Nat} (h : Kept w0 B b n W) (hi : i < n) : W.cell? ⟨b, i, none⟩ = some (cellOr W b i) := by
  obtain ⟨h1, h2, h3, cs, t, h4, h5⟩ := h
  exact cellOr_of (h5.cell i (Array.getElem?_eq_getElem (by omega)))
theorem Kept.frozen {w0 W : World} {B b n i : Nat} (h : Kept w0 B b n W) : W.frozen? ⟨b, i, none⟩ = false := by
  obtain ⟨h1, h2, h3, cs, t, h4, h5⟩ := h
  exact h5.frozen i
theorem Kept.old {w0 W : World} {B b n k i : Nat} {v : Value} (h : Kept w0 B b n W) (hk : k < B) (hc : w0.cell? ⟨k, i, none⟩ = some v) : W.cell? ⟨k, i, none⟩ = some v :=
  (h.2.2.1.cell (p := ⟨k, i, none⟩) hk).trans hc
/-- At the end: the result's cells are told, the world has one name. -/
theorem post_blk4 {P : Program} {fn : Func} {R : Ending → World → Prop} {a : Act} {W : World} {b : Nat} {x0 x1 x2 x3 : Value} {t : TypeId} (hB : Blk W b #[x0, x1, x2, x3] t)
    (h : ∀ W', W' = W → W'.cell? ⟨b, 0, none⟩ = some x0 → W'.cell? ⟨b, 1, none⟩ = some x1 → W'.cell? ⟨b, 2, none⟩ = some x2 → W'.cell? ⟨b, 3, none⟩ = some x3 → bodyPost P fn R .ret a W') : bodyPost P fn R .ret a W :=
  h W rfl (hB.cell 0 rfl) (hB.cell 1 rfl) (hB.cell 2 rfl) (hB.cell 3 rfl)
theorem k1 (s page from' : Int) (hs : slotI s = true) (hp : inI 65536 page = true) (w : World) : Calls Try.prog 37 #[.agg #[.int .i64 s], .int .i64 page, .int .i64 from'] w fun e w' => e = .returned (.tuple #[.agg #[.int .i64 0, .int .i64 0, .int .i64 0, .int .i64 (page - (64 * s + 1))], .bool (inI 48 (page - (64 * s + 1)))]) ∧ Below w.heap.size w w' := by
  have hs' : 0 ≤ s ∧ s < 4 := by simpa [slotI] using hs
  have hp' : 0 ≤ page ∧ page < 65536 := by simpa [inI] using hp
  have hsub : IntKind.i64.wrap (page - (64 * s + 1)) = page - (64 * s + 1) := IntWalk.i64_in _ (by omega)
  go_enter Try.func37, Try.ntmps37
  go_wp2_with fail
  obtain ⟨w0, hw0⟩ : ∃ w0, (w.alloc (Obj.cells #[Value.int .i64 s] 52)).alloc (Obj.cells #[Value.int .i64 0, Value.int .i64 0, Value.int .i64 0, Value.int .i64 0] 36) = w0 := ⟨_, rfl⟩
  have hX : Blk w0 w.heap.size #[Value.int .i64 s] 52 := by rw [← hw0]; exact (Blk.new w _ _).alloc _
  have hY : Blk w0 (w.heap.size + 1) #[Value.int .i64 0, Value.int .i64 0, Value.int .i64 0, Value.int .i64 0] 36 := by rw [← hw0]; exact Blk.newAt _ _ _ (by simp)
  rw [hw0]
  have c0 : w0.cell? ⟨w.heap.size, 0, none⟩ = some (.int .i64 s) := hX.cell 0 rfl
  have hK : Kept w0 (w.heap.size + 1) (w.heap.size + 1) 4 w0.drew := Kept.first (by rw [← hw0]; simp) (Nat.le_refl _) hY 1
  have hall : ∀ W, Kept w0 (w.heap.size + 1) (w.heap.size + 1) 4 W → W.cell? ⟨w.heap.size, 0, none⟩ = some (.int .i64 s) ∧ Kept w0 (w.heap.size + 1) (w.heap.size + 1) 4 W ∧ W.cell? ⟨w.heap.size + 1, 0, none⟩ = some (cellOr W (w.heap.size + 1) 0) ∧ W.cell? ⟨w.heap.size + 1, 1, none⟩ = some (cellOr W (w.heap.size + 1) 1) ∧ W.cell? ⟨w.heap.size + 1, 2, none⟩ = some (cellOr W (w.heap.size + 1) 2) ∧ W.cell? ⟨w.heap.size + 1, 3, none⟩ = some (cellOr W (w.heap.size + 1) 3) ∧ W.frozen? ⟨w.heap.size + 1, 0, none⟩ = false ∧ W.frozen? ⟨w.heap.size + 1, 1, none⟩ = false ∧ W.frozen? ⟨w.heap.size + 1, 2, none⟩ = false ∧ W.frozen? ⟨w.heap.size + 1, 3, none⟩ = false :=
    fun W h => ⟨h.old (by omega) c0, h, h.cell (by omega), h.cell (by omega), h.cell (by omega), h.cell (by omega), h.frozen, h.frozen, h.frozen, h.frozen⟩
  go_region_held3 (fun W => W.cell? ⟨w.heap.size, 0, none⟩ = some (.int .i64 s) ∧ Kept w0 (w.heap.size + 1) (w.heap.size + 1) 4 W ∧ W.cell? ⟨w.heap.size + 1, 0, none⟩ = some (cellOr W (w.heap.size + 1) 0) ∧ W.cell? ⟨w.heap.size + 1, 1, none⟩ = some (cellOr W (w.heap.size + 1) 1) ∧ W.cell? ⟨w.heap.size + 1, 2, none⟩ = some (cellOr W (w.heap.size + 1) 2) ∧ W.cell? ⟨w.heap.size + 1, 3, none⟩ = some (cellOr W (w.heap.size + 1) 3) ∧ W.frozen? ⟨w.heap.size + 1, 0, none⟩ = false ∧ W.frozen? ⟨w.heap.size + 1, 1, none⟩ = false ∧ W.frozen? ⟨w.heap.size + 1, 2, none⟩ = false ∧ W.frozen? ⟨w.heap.size + 1, 3, none⟩ = false) (first
    | exact hall _ hK
    | exact hall _ (Kept.step hb rfl (And.left (And.right (by assumption))))
    | exact hall _ (Kept.made _ (And.left (And.right (by assumption))))
    | exact hall _ (Kept.set _ _ (Kept.set _ _ (Kept.set _ _ (Kept.set _ _ (And.left (And.right (by assumption))))))))
    (first | (go_at_call 28; refine (book_calls s hs _).mono ?_; rintro e w1 ⟨rfl, hb⟩) | (go_at_call 26; refine (fits_ok 48 _ _ _ (lit1 _ _ _)).mono ?_; rintro e w1 ⟨rfl, hb⟩))
  go_wp2_with fail
  rename_i wa hba wb hbb hHeld
  have l0 : w.heap.size + 1 < w0.heap.size := hY.lt
  have hYf := (((((((((hY.drewN 1).below hba hY.lt).below hbb (Nat.lt_of_lt_of_le l0 hba.size)).alloc (Obj.cells #[Value.int .i64 (page - (64 * s + 1))] 3)).below hb (by have := hba.size; have := hbb.size; simp at *; omega)).set 0 (.int .i64 0)).set 1 (.int .i64 0)).set 2 (.int .i64 0)).set 3 (.int .i64 (page - (64 * s + 1))))
  have hBel := hHeld.2.1.2.2.1
  clear hHeld hall hK
  refine post_blk4 (x0 := .int .i64 0) (x1 := .int .i64 0) (x2 := .int .i64 0) (x3 := .int .i64 (page - (64 * s + 1))) hYf ?_
  intro W' hW d0 d1 d2 d3
  rw [← hW] at hBel
  clear hYf hW hY hX
  refine bodyPost_ret (v := .tuple #[.agg #[.int .i64 0, .int .i64 0, .int .i64 0, .int .i64 (page - (64 * s + 1))], .bool (inI 48 (page - (64 * s + 1)))]) ?_ rfl ⟨rfl, ?_⟩
  · simp [results, Try.results37, go_sem, d0, d1, d2, d3]
  · have hw : Below w.heap.size w w0 := by rw [← hw0]; exact ((Below.refl _ w).alloc (Nat.le_refl _) _).alloc (by simp) _
    exact hw.trans (hBel.mono (by omega))
end Go.Proofs.Ytcgdipkmcgionaa
