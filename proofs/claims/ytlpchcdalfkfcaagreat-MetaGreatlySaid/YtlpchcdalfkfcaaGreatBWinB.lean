/-
  Package window: what a page may be.
-/
import Derived.Test.YtlpchcdalfkfcaaGreatBVmR
import Derived.Deep.RegionHeld3
namespace Go.Proofs.YtlpchcdalfkfcaaGreat
open Go.RowKit
set_option maxHeartbeats 4000000

theorem k3 (s page from' : Int) (w : World) : Calls Tryz.prog 139 #[.agg #[.int .i64 s], .int .i64 page, .int .i64 from'] w fun e w' => e = .returned (.tuple #[.agg #[.int .i64 0, .int .i64 0, .int .i64 0, .int .i64 from'], .bool (decide (256 ≤ from' ∧ from' < 4096))]) ∧ Below w.heap.size w w' := by
  by_cases h : 256 ≤ from'
  · have hd : decide (256 ≤ from') = true := by simpa using h
    go_enter Tryz.func139, Tryz.ntmps139
    go_wp2_with fail
    refine bodyPost_ret (v := .tuple #[.agg #[.int .i64 0, .int .i64 0, .int .i64 0, .int .i64 from'], .bool (decide (from' < 4096))]) ?_ rfl ⟨by simp [h], ((Below.refl _ w).alloc (Nat.le_refl _) _).alloc (by simp) _⟩
    simp [results, Tryz.results139, go_sem]
  · have hd : decide (256 ≤ from') = false := by simpa using h
    go_enter Tryz.func139, Tryz.ntmps139
    go_wp2_with fail
    refine bodyPost_ret (v := .tuple #[.agg #[.int .i64 0, .int .i64 0, .int .i64 0, .int .i64 from'], .bool false]) ?_ rfl ⟨by simp, ((Below.refl _ w).alloc (Nat.le_refl _) _).alloc (by simp) _⟩
    simp [results, Tryz.results139, go_sem]
/-- What a cell holds, or nothing known. -/
def cellOr (W : World) (b i : Nat) : Value := (W.cell? ⟨b, i, none⟩).getD undef
theorem cellOr_of {W : World} {b i : Nat} {v : Value} (h : W.cell? ⟨b, i, none⟩ = some v) : W.cell? ⟨b, i, none⟩ = some (cellOr W b i) := by unfold cellOr; rw [h]; rfl
theorem below_step {B n : Nat} {w0 W W1 : World} (hb : Below n W W1) (hn : n = W.heap.size) (hB : B ≤ w0.heap.size) (h : Below B w0 W) : Below B w0 W1 := h.trans (hb.mono (by have := h.size; omega))
theorem below_made {B : Nat} {w0 W : World} (hB : B ≤ w0.heap.size) (o : Obj) (h : Below B w0 W) : Below B w0 (W.alloc o) := h.alloc (Nat.le_trans hB h.size) o
/-- Nothing below B has turned since w0; block b (from B on) has n cells. -/
def Kept (w0 : World) (B b n : Nat) (W : World) : Prop := B ≤ w0.heap.size ∧ B ≤ b ∧ Below B w0 W ∧ ∃ cs t, cs.size = n ∧ Blk W b cs t
theorem Kept.first {w0 : World} {B b : Nat} {cs : Array Value} {t : TypeId} (h1 : B ≤ w0.heap.size) (h2 : B ≤ b) (h : Blk w0 b cs t) (d : Nat) : Kept w0 B b cs.size (w0.drewN d) := ⟨h1, h2, (Below.refl _ _).drewN d, cs, t, rfl, h⟩
theorem Kept.step {w0 W W1 : World} {B b n m : Nat} (hb : Below m W W1) (hm : m = W.heap.size) (h : Kept w0 B b n W) : Kept w0 B b n W1 := by
  obtain ⟨h1, h2, h3, cs, t, h4, h5⟩ := h
  subst hm
  exact ⟨h1, h2, below_step hb rfl h1 h3, cs, t, h4, h5.below hb h5.lt⟩
theorem Kept.made {w0 W : World} {B b n : Nat} (o : Obj) (h : Kept w0 B b n W) : Kept w0 B b n (W.alloc o) := by
  obtain ⟨h1, h2, h3, cs, t, h4, h5⟩ := h
  exact ⟨h1, h2, below_made h1 o h3, cs, t, h4, h5.alloc o⟩
theorem Kept.set {w0 W : World} {B b n : Nat} (i : Nat) (v : Value) (h : Kept w0 B b n W) : Kept w0 B b n (W.setCell ⟨b, i, none⟩ v) := by
  obtain ⟨h1, h2, h3, cs, t, h4, h5⟩ := h
  exact ⟨h1, h2, h3.setCell (p := ⟨b, i, none⟩) h2 v, _, t, by simp [h4], h5.set i v⟩
theorem Kept.cell {w0 W : World} {B b n i : Nat} (h : Kept w0 B b n W) (hi : i < n) : W.cell? ⟨b, i, none⟩ = some (cellOr W b i) := by
  obtain ⟨h1, h2, h3, cs, t, h4, h5⟩ := h
  exact cellOr_of (h5.cell i (Array.getElem?_eq_getElem (by omega)))
theorem Kept.frozen {w0 W : World} {B b n i : Nat} (h : Kept w0 B b n W) : W.frozen? ⟨b, i, none⟩ = false := by
  obtain ⟨h1, h2, h3, cs, t, h4, h5⟩ := h
  exact h5.frozen i
theorem Kept.old {w0 W : World} {B b n k i : Nat} {v : Value} (h : Kept w0 B b n W) (hk : k < B) (hc : w0.cell? ⟨k, i, none⟩ = some v) : W.cell? ⟨k, i, none⟩ = some v :=
  (h.2.2.1.cell (p := ⟨k, i, none⟩) hk).trans hc
/-- At the end: the result's cells are told, the world has one name. -/
theorem post_blk4 {P : Program} {fn : Func} {R : Ending → World → Prop} {a : Act} {W : World} {b : Nat} {x0 x1 x2 x3 : Value} {t : TypeId} (hB : Blk W b #[x0, x1, x2, x3] t)
    (h : ∀ W', W' = W → W'.cell? ⟨b, 0, none⟩ = some x0 → W'.cell? ⟨b, 1, none⟩ = some x1 → W'.cell? ⟨b, 2, none⟩ = some x2 → W'.cell? ⟨b, 3, none⟩ = some x3 → bodyPost P fn R .ret a W') : bodyPost P fn R .ret a W :=
  h W rfl (hB.cell 0 rfl) (hB.cell 1 rfl) (hB.cell 2 rfl) (hB.cell 3 rfl)
theorem k1 (s page from' : Int) (hs : slotI s = true) (hp : inI 65536 page = true) (w : World) : Calls Tryz.prog 136 #[.agg #[.int .i64 s], .int .i64 page, .int .i64 from'] w fun e w' => e = .returned (.tuple #[.agg #[.int .i64 0, .int .i64 0, .int .i64 0, .int .i64 (page - (64 * s + 1))], .bool (inI 48 (page - (64 * s + 1)))]) ∧ Below w.heap.size w w' := by
  have hs' : 0 ≤ s ∧ s < 4 := by simpa [slotI] using hs
  have hp' : 0 ≤ page ∧ page < 65536 := by simpa [inI] using hp
  have hsub : IntKind.i64.wrap (page - (64 * s + 1)) = page - (64 * s + 1) := IntWalk.i64_in _ (by omega)
  go_enter Tryz.func136, Tryz.ntmps136
  go_wp2_with fail
  obtain ⟨w0, hw0⟩ : ∃ w0, (w.alloc (Obj.cells #[Value.int .i64 s] 119)).alloc (Obj.cells #[Value.int .i64 0, Value.int .i64 0, Value.int .i64 0, Value.int .i64 0] 85) = w0 := ⟨_, rfl⟩
  have hX : Blk w0 w.heap.size #[Value.int .i64 s] 119 := by rw [← hw0]; exact (Blk.new w _ _).alloc _
  have hY : Blk w0 (w.heap.size + 1) #[Value.int .i64 0, Value.int .i64 0, Value.int .i64 0, Value.int .i64 0] 85 := by rw [← hw0]; exact Blk.newAt _ _ _ (by simp)
  rw [hw0]
  have c0 : w0.cell? ⟨w.heap.size, 0, none⟩ = some (.int .i64 s) := hX.cell 0 rfl
  have hK : Kept w0 (w.heap.size + 1) (w.heap.size + 1) 4 w0.drew := Kept.first (by rw [← hw0]; simp) (Nat.le_refl _) hY 1
  have hall : ∀ W, Kept w0 (w.heap.size + 1) (w.heap.size + 1) 4 W → W.cell? ⟨w.heap.size, 0, none⟩ = some (.int .i64 s) ∧ Kept w0 (w.heap.size + 1) (w.heap.size + 1) 4 W ∧ W.cell? ⟨w.heap.size + 1, 0, none⟩ = some (cellOr W (w.heap.size + 1) 0) ∧ W.cell? ⟨w.heap.size + 1, 1, none⟩ = some (cellOr W (w.heap.size + 1) 1) ∧ W.cell? ⟨w.heap.size + 1, 2, none⟩ = some (cellOr W (w.heap.size + 1) 2) ∧ W.cell? ⟨w.heap.size + 1, 3, none⟩ = some (cellOr W (w.heap.size + 1) 3) ∧ W.frozen? ⟨w.heap.size + 1, 0, none⟩ = false ∧ W.frozen? ⟨w.heap.size + 1, 1, none⟩ = false ∧ W.frozen? ⟨w.heap.size + 1, 2, none⟩ = false ∧ W.frozen? ⟨w.heap.size + 1, 3, none⟩ = false :=
    fun W h => ⟨h.old (by omega) c0, h, h.cell (by omega), h.cell (by omega), h.cell (by omega), h.cell (by omega), h.frozen, h.frozen, h.frozen, h.frozen⟩
  go_region_held3 (fun W => W.cell? ⟨w.heap.size, 0, none⟩ = some (.int .i64 s) ∧ Kept w0 (w.heap.size + 1) (w.heap.size + 1) 4 W ∧ W.cell? ⟨w.heap.size + 1, 0, none⟩ = some (cellOr W (w.heap.size + 1) 0) ∧ W.cell? ⟨w.heap.size + 1, 1, none⟩ = some (cellOr W (w.heap.size + 1) 1) ∧ W.cell? ⟨w.heap.size + 1, 2, none⟩ = some (cellOr W (w.heap.size + 1) 2) ∧ W.cell? ⟨w.heap.size + 1, 3, none⟩ = some (cellOr W (w.heap.size + 1) 3) ∧ W.frozen? ⟨w.heap.size + 1, 0, none⟩ = false ∧ W.frozen? ⟨w.heap.size + 1, 1, none⟩ = false ∧ W.frozen? ⟨w.heap.size + 1, 2, none⟩ = false ∧ W.frozen? ⟨w.heap.size + 1, 3, none⟩ = false) (first
    | exact hall _ hK
    | exact hall _ (Kept.step hb rfl (And.left (And.right (by assumption))))
    | exact hall _ (Kept.made _ (And.left (And.right (by assumption))))
    | exact hall _ (Kept.set _ _ (Kept.set _ _ (Kept.set _ _ (Kept.set _ _ (And.left (And.right (by assumption))))))))
    (first | (go_at_call 137; refine (book_calls s hs _).mono ?_; rintro e w1 ⟨rfl, hb⟩) | (go_at_call 67; refine (fits_ok 48 _ _ _ (lit1 _ _ _)).mono ?_; rintro e w1 ⟨rfl, hb⟩))
  go_wp2_with fail
  rename_i wa hba wb hbb hHeld
  have l0 : w.heap.size + 1 < w0.heap.size := hY.lt
  have hYf := (((((((((hY.drewN 1).below hba hY.lt).below hbb (Nat.lt_of_lt_of_le l0 hba.size)).alloc (Obj.cells #[Value.int .i64 (page - (64 * s + 1))] 3)).below hb (by have := hba.size; have := hbb.size; simp at *; omega)).set 0 (.int .i64 0)).set 1 (.int .i64 0)).set 2 (.int .i64 0)).set 3 (.int .i64 (page - (64 * s + 1))))
  have hBel := hHeld.2.1.2.2.1
  clear hHeld hall hK
  refine post_blk4 (x0 := .int .i64 0) (x1 := .int .i64 0) (x2 := .int .i64 0) (x3 := .int .i64 (page - (64 * s + 1))) hYf ?_
  intro W' hW d0 d1 d2 d3
  rw [← hW] at hBel
  clear hYf hW hY hX
  refine bodyPost_ret (v := .tuple #[.agg #[.int .i64 0, .int .i64 0, .int .i64 0, .int .i64 (page - (64 * s + 1))], .bool (inI 48 (page - (64 * s + 1)))]) ?_ rfl ⟨rfl, ?_⟩
  · simp [results, Tryz.results136, go_sem, d0, d1, d2, d3]
  · have hw : Below w.heap.size w w0 := by rw [← hw0]; exact ((Below.refl _ w).alloc (Nat.le_refl _) _).alloc (by simp) _
    exact hw.trans (hBel.mono (by omega))
end Go.Proofs.YtlpchcdalfkfcaaGreat

/-
  Package window: what a page may be, further.
-/
namespace Go.Proofs.YtlpchcdalfkfcaaGreat
open Go.RowKit
set_option maxHeartbeats 1000000

def ok2 (f : Int) : Bool := decide (0 < f ∧ (f - 1) / 17 < 8 ∧ (f - 1) % 17 < 16)
/-- What a kind's function tells: the class and the place count only where it fits. -/
def SitePost (w : World) (ok : Bool) (c p : Int) (e : Ending) (w' : World) : Prop := ∃ c' p' : Int, e = .returned (.tuple #[.agg #[.int .i64 0, .int .i64 0, .int .i64 c', .int .i64 p'], .bool ok]) ∧ (ok = true → c' = c ∧ p' = p) ∧ Below w.heap.size w w'
theorem k2 (s page f : Int) (h1 : -100000 < f) (h2 : f < 100000) (w : World) : Calls Tryz.prog 138 #[.agg #[.int .i64 s], .int .i64 page, .int .i64 f] w (SitePost w (ok2 f) ((f - 1) / 17) ((f - 1) % 17)) := by
  have hw2 : ∀ cs, Below w.heap.size w ((w.alloc (Obj.cells #[Value.int .i64 s] 119)).alloc (Obj.cells cs 85)) := fun cs => ((Below.refl _ w).alloc (Nat.le_refl _) _).alloc (by simp) _
  by_cases g1 : 0 < f
  · have d1 : decide (0 < f) = true := by simpa using g1
    by_cases g2 : (f - 1) / 17 < 8
    · have d2 : decide ((f - 1) / 17 < 8) = true := by simpa using g2
      have hr : ok2 f = decide ((f - 1) % 17 < 16) := by unfold ok2; simp [g1, g2]
      rw [hr]
      clear hr
      go_enter Tryz.func138, Tryz.ntmps138
      go_wp2_with fail
      refine bodyPost_ret (v := .tuple #[.agg #[.int .i64 0, .int .i64 0, .int .i64 ((f - 1) / 17), .int .i64 ((f - 1) % 17)], .bool (decide ((f - 1) % 17 < 16))]) ?_ rfl ⟨_, _, rfl, fun _ => ⟨rfl, rfl⟩, hw2 _⟩
      simp [results, Tryz.results138, go_sem]
    · have d2 : decide ((f - 1) / 17 < 8) = false := by simpa using g2
      have hr : ok2 f = false := by unfold ok2; simp; intro _ _; omega
      rw [hr]
      clear hr
      go_enter Tryz.func138, Tryz.ntmps138
      go_wp2_with fail
      refine bodyPost_ret (v := .tuple #[.agg #[.int .i64 0, .int .i64 0, .int .i64 ((f - 1) / 17), .int .i64 ((f - 1) % 17)], .bool false]) ?_ rfl ⟨_, _, rfl, (fun h => by cases h), hw2 _⟩
      simp [results, Tryz.results138, go_sem]
  · have d1 : decide (0 < f) = false := by simpa using g1
    have hr : ok2 f = false := by unfold ok2; simp; omega
    rw [hr]
    clear hr
    go_enter Tryz.func138, Tryz.ntmps138
    go_wp2_with fail
    refine bodyPost_ret (v := .tuple #[.agg #[.int .i64 0, .int .i64 0, .int .i64 ((f - 1).tdiv 17), .int .i64 ((f - 1).tmod 17)], .bool false]) ?_ rfl ⟨_, _, rfl, (fun h => by cases h), hw2 _⟩
    simp [results, Tryz.results138, go_sem]
theorem k4 (s page f : Int) (w : World) : Calls Tryz.prog 140 #[.agg #[.int .i64 s], .int .i64 page, .int .i64 f] w fun e w' => e = .returned (.tuple #[.agg #[.int .i64 0, .int .i64 0, .int .i64 0, .int .i64 f], .bool (inI 4096 f)]) ∧ Below w.heap.size w w' := by
  go_enter Tryz.func140, Tryz.ntmps140
  go_wp2_with fail
  have hw2 : Below w.heap.size w ((w.alloc (Obj.cells #[Value.int .i64 s] 119)).alloc (Obj.cells #[Value.int .i64 0, Value.int .i64 0, Value.int .i64 0, Value.int .i64 0] 85)) := ((Below.refl _ w).alloc (Nat.le_refl _) _).alloc (by simp) _
  have hY : Blk ((w.alloc (Obj.cells #[Value.int .i64 s] 119)).alloc (Obj.cells #[Value.int .i64 0, Value.int .i64 0, Value.int .i64 0, Value.int .i64 0] 85)) (w.heap.size + 1) #[Value.int .i64 0, Value.int .i64 0, Value.int .i64 0, Value.int .i64 0] 85 := Blk.newAt _ _ _ (by simp)
  refine (fits_ok 4096 f (w.heap.size + 2) _ (by have := lit1 ((w.alloc (Obj.cells #[Value.int .i64 s] 119)).alloc (Obj.cells #[Value.int .i64 0, Value.int .i64 0, Value.int .i64 0, Value.int .i64 0] 85)) f 3; simpa using this)).mono ?_; rintro e w1 ⟨rfl, hb⟩
  have hY1 := (hY.alloc (Obj.cells #[Value.int .i64 f] 3)).below hb (by simp)
  have hB1 := (hw2.alloc (by simp; omega) (Obj.cells #[Value.int .i64 f] 3)).trans (hb.mono (by simp; omega))
  have hz := hb.size
  simp at hz
  have c0 := hY1.cell 0 rfl
  have c1 := hY1.cell 1 rfl
  have c2 := hY1.cell 2 rfl
  have c3 := hY1.cell 3 rfl
  have f0 := hY1.frozen 0
  have f1 := hY1.frozen 1
  have f2 := hY1.frozen 2
  have f3 := hY1.frozen 3
  go_wp2_with fail
  have hYf := (((hY1.set 0 (.int .i64 0)).set 1 (.int .i64 0)).set 2 (.int .i64 0)).set 3 (.int .i64 f)
  have hBel := (((hB1.setCell (p := ⟨w.heap.size + 1, 0, none⟩) (by simp) (.int .i64 0)).setCell (p := ⟨w.heap.size + 1, 1, none⟩) (by simp) (.int .i64 0)).setCell (p := ⟨w.heap.size + 1, 2, none⟩) (by simp) (.int .i64 0)).setCell (p := ⟨w.heap.size + 1, 3, none⟩) (by simp) (.int .i64 f)
  clear c0 c1 c2 c3 f0 f1 f2 f3 hY hY1 hB1 hw2
  refine post_blk4 (x0 := .int .i64 0) (x1 := .int .i64 0) (x2 := .int .i64 0) (x3 := .int .i64 f) hYf ?_
  intro W' hW d0 d1 d2 d3
  rw [← hW] at hBel
  clear hYf hW
  refine bodyPost_ret (v := .tuple #[.agg #[.int .i64 0, .int .i64 0, .int .i64 0, .int .i64 f], .bool (inI 4096 f)]) ?_ rfl ⟨rfl, hBel⟩
  simp [results, Tryz.results140, go_sem, d0, d1, d2, d3]
def kindCells : Array Value := #[.int .i64 1, .func (.func 136) #[] #[], .int .i64 2, .func (.func 138) #[] #[], .int .i64 3, .func (.func 139) #[] #[], .int .i64 4, .func (.func 140) #[] #[]]
theorem kinds_calls (w : World) : Calls Tryz.prog 75 #[] w fun e w' => e = .returned (.slice (some ⟨w.heap.size, 0, none⟩) 4 4) ∧ w' = w.alloc (.cells kindCells 133) := by
  go_enter Tryz.func75, Tryz.ntmps75
  go_wp2_with fail
  go_ret
  exact ⟨rfl, rfl⟩
/-- The four together: whether it fits, the class, the place. -/
def okI (i : Nat) (s page : Int) : Bool := match i with
  | 0 => inI 48 (page - (64 * s + 1))
  | 1 => ok2 (page - 4096 * (s + 1))
  | 2 => decide (256 ≤ page - 4096 * (s + 1) ∧ page - 4096 * (s + 1) < 4096)
  | _ => inI 4096 (page - 4096 * (s + 1))
def clI (i : Nat) (s page : Int) : Int := match i with
  | 1 => (page - 4096 * (s + 1) - 1) / 17
  | _ => 0
def plI (i : Nat) (s page : Int) : Int := match i with
  | 0 => page - (64 * s + 1)
  | 1 => (page - 4096 * (s + 1) - 1) % 17
  | _ => page - 4096 * (s + 1)
def kindF (i : Nat) : FuncId := match i with
  | 0 => 136
  | 1 => 138
  | 2 => 139
  | _ => 140
theorem k_all (i : Nat) (s page : Int) (hs : slotI s = true) (hp : inI 65536 page = true) (w : World) : Calls Tryz.prog (kindF i) #[.agg #[.int .i64 s], .int .i64 page, .int .i64 (page - 4096 * (s + 1))] w (SitePost w (okI i s page) (clI i s page) (plI i s page)) := by
  have hs' : 0 ≤ s ∧ s < 4 := by simpa [slotI] using hs
  have hp' : 0 ≤ page ∧ page < 65536 := by simpa [inI] using hp
  match i with
  | 0 => exact (k1 s page _ hs hp w).mono fun e w' ⟨h1, h2⟩ => ⟨_, _, h1, fun _ => ⟨rfl, rfl⟩, h2⟩
  | 1 => exact k2 s page _ (by omega) (by omega) w
  | 2 => exact (k3 s page _ w).mono fun e w' ⟨h1, h2⟩ => ⟨_, _, h1, fun _ => ⟨rfl, rfl⟩, h2⟩
  | _ + 3 => exact (k4 s page _ w).mono fun e w' ⟨h1, h2⟩ => ⟨_, _, h1, fun _ => ⟨rfl, rfl⟩, h2⟩
theorem k_enters (i : Nat) (args : Array Value) (w : World) : (callFunc (kindF i) args).run Tryz.prog w = .ok (.enter (kindF i) args) w := by
  match i with
  | 0 => exact enters_of Tryz.func136 (by kernel_rfl) rfl args w
  | 1 => exact enters_of Tryz.func138 (by kernel_rfl) rfl args w
  | 2 => exact enters_of Tryz.func139 (by kernel_rfl) rfl args w
  | _ + 3 => exact enters_of Tryz.func140 (by kernel_rfl) rfl args w
theorem kind_cells (i : Nat) (h : i < 4) : kindCells[2 * i]? = some (.int .i64 (i + 1)) ∧ kindCells[2 * i + 1]? = some (.func (.func (kindF i)) #[] #[]) := by
  match i, h with
  | 0, _ => exact ⟨rfl, rfl⟩
  | 1, _ => exact ⟨rfl, rfl⟩
  | 2, _ => exact ⟨rfl, rfl⟩
  | 3, _ => exact ⟨rfl, rfl⟩
end Go.Proofs.YtlpchcdalfkfcaaGreat
