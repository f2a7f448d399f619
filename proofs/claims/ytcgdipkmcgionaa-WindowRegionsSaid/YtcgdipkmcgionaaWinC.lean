/-
  Package window: what a page may be, further.
-/
import Derived.Test.YtcgdipkmcgionaaWinB
namespace Go.Proofs.Ytcgdipkmcgionaa
open Go.RowKit
set_option maxHeartbeats 1000000

def ok2 (f : Int) : Bool := decide (0 < f ∧ (f - 1) / 17 < 8 ∧ (f - 1) % 17 < 16)
/-- What a kind's function tells: the class and the place count only where it fits. -/
def SitePost (w : World) (ok : Bool) (c p : Int) (e : Ending) (w' : World) : Prop := ∃ c' p' : Int, e = .returned (.tuple #[.agg #[.int .i64 0, .int .i64 0, .int .i64 c', .int .i64 p'], .bool ok]) ∧ (ok = true → c' = c ∧ p' = p) ∧ Below w.heap.size w w'
theorem k2 (s page f : Int) (h1 : -100000 < f) (h2 : f < 100000) (w : World) : Calls Try.prog 38 #[.agg #[.int .i64 s], .int .i64 page, .int .i64 f] w (SitePost w (ok2 f) ((f - 1) / 17) ((f - 1) % 17)) := by
  have hw2 : ∀ cs, Below w.heap.size w ((w.alloc (Obj.cells #[Value.int .i64 s] 52)).alloc (Obj.cells cs 36)) := fun cs => ((Below.refl _ w).alloc (Nat.le_refl _) _).alloc (by simp) _
  by_cases g1 : 0 < f
  · have d1 : decide (0 < f) = true := by simpa using g1
    by_cases g2 : (f - 1) / 17 < 8
    · have d2 : decide ((f - 1) / 17 < 8) = true := by simpa using g2
      have hr : ok2 f = decide ((f - 1) % 17 < 16) := by unfold ok2; simp [g1, g2]
      rw [hr]
      clear hr
      go_enter Try.func38, Try.ntmps38
      go_wp2_with fail
      refine bodyPost_ret (v := .tuple #[.agg #[.int .i64 0, .int .i64 0, .int .i64 ((f - 1) / 17), .int .i64 ((f - 1) % 17)], .bool (decide ((f - 1) % 17 < 16))]) ?_ rfl ⟨_, _, rfl, fun _ => ⟨rfl, rfl⟩, hw2 _⟩
      simp [results, Try.results38, go_sem]
    · have d2 : decide ((f - 1) / 17 < 8) = false := by simpa using g2
      have hr : ok2 f = false := by unfold ok2; simp; intro _ _; omega
      rw [hr]
      clear hr
      go_enter Try.func38, Try.ntmps38
      go_wp2_with fail
      refine bodyPost_ret (v := .tuple #[.agg #[.int .i64 0, .int .i64 0, .int .i64 ((f - 1) / 17), .int .i64 ((f - 1) % 17)], .bool false]) ?_ rfl ⟨_, _, rfl, (fun h => by cases h), hw2 _⟩
      simp [results, Try.results38, go_sem]
  · have d1 : decide (0 < f) = false := by simpa using g1
    have hr : ok2 f = false := by unfold ok2; simp; omega
    rw [hr]
    clear hr
    go_enter Try.func38, Try.ntmps38
    go_wp2_with fail
    refine bodyPost_ret (v := .tuple #[.agg #[.int .i64 0, .int .i64 0, .int .i64 ((f - 1).tdiv 17), .int .i64 ((f - 1).tmod 17)], .bool false]) ?_ rfl ⟨_, _, rfl, (fun h => by cases h), hw2 _⟩
    simp [results, Try.results38, go_sem]
theorem k4 (s page f : Int) (w : World) : Calls Try.prog 40 #[.agg #[.int .i64 s], .int .i64 page, .int .i64 f] w fun e w' => e = .returned (.tuple #[.agg #[.int .i64 0, .int .i64 0, .int .i64 0, .int .i64 f], .bool (inI 4096 f)]) ∧ Below w.heap.size w w' := by
  go_enter Try.func40, Try.ntmps40
  go_wp2_with fail
  have hw2 : Below w.heap.size w ((w.alloc (Obj.cells #[Value.int .i64 s] 52)).alloc (Obj.cells #[Value.int .i64 0, Value.int .i64 0, Value.int .i64 0, Value.int .i64 0] 36)) := ((Below.refl _ w).alloc (Nat.le_refl _) _).alloc (by simp) _
  have hY : Blk ((w.alloc (Obj.cells #[Value.int .i64 s] 52)).alloc (Obj.cells #[Value.int .i64 0, Value.int .i64 0, Value.int .i64 0, Value.int .i64 0] 36)) (w.heap.size + 1) #[Value.int .i64 0, Value.int .i64 0, Value.int .i64 0, Value.int .i64 0] 36 := Blk.newAt _ _ _ (by simp)
  refine (fits_ok 4096 f (w.heap.size + 2) _ (by have := lit1 ((w.alloc (Obj.cells #[Value.int .i64 s] 52)).alloc (Obj.cells #[Value.int .i64 0, Value.int .i64 0, Value.int .i64 0, Value.int .i64 0] 36)) f 3; simpa using this)).mono ?_; rintro e w1 ⟨rfl, hb⟩
  have hY1 := (hY.alloc (Obj.cells #[Value.int .i64 f] 3)).below hb (by simp)
  have hB1 := (hw2.alloc (by simp; omega) (Obj.cells #[Value.int .i64 f] 3)).trans (hb.mono (by simp; omega))
  have hz := hb.size
  simp at hz
  have c0 := hY1.cell 0 rfl
  have c1 := hY1.cell 1 rfl
  have c2 := hY1.cell 2 rfl
  have c3 := hY1.cell 3 rfl
  have f0 := hY1.frozen 0
  have f1 := hY1.frozen 1
  have f2 := hY1.frozen 2
  have f3 := hY1.frozen 3
  go_wp2_with fail
  have hYf := (((hY1.set 0 (.int .i64 0)).set 1 (.int .i64 0)).set 2 (.int .i64 0)).set 3 (.int .i64 f)
  have hBel := (((hB1.setCell (p := ⟨w.heap.size + 1, 0, none⟩) (by simp) (.int .i64 0)).setCell (p := ⟨w.heap.size + 1, 1, none⟩) (by simp) (.int .i64 0)).setCell (p := ⟨w.heap.size + 1, 2, none⟩) (by simp) (.int .i64 0)).setCell (p := ⟨w.heap.size + 1, 3, none⟩) (by simp) (.int .i64 f)
  clear c0 c1 c2 c3 f0 f1 f2 f3 hY hY1 hB1 hw2
  refine post_blk4 (x0 := .int .i64 0) (x1 := .int .i64 0) (x2 := .int .i64 0) (x3 := .int .i64 f) hYf ?_
  intro W' hW d0 d1 d2 d3
  rw [← hW] at hBel
  clear hYf hW
  refine bodyPost_ret (v := .tuple #[.agg #[.int .i64 0, .int .i64 0, .int .i64 0, .int .i64 f], .bool (inI 4096 f)]) ?_ rfl ⟨rfl, hBel⟩
  simp [results, Try.results40, go_sem, d0, d1, d2, d3]
def kindCells : Array Value := #[.int .i64 1, .func (.func 37) #[] #[], .int .i64 2, .func (.func 38) #[] #[], .int .i64 3, .func (.func 39) #[] #[], .int .i64 4, .func (.func 40) #[] #[]]
theorem kinds_calls (w : World) : Calls Try.prog 31 #[] w fun e w' => e = .returned (.slice (some ⟨w.heap.size, 0, none⟩) 4 4) ∧ w' = w.alloc (.cells kindCells 62) := by
  go_enter Try.func31, Try.ntmps31
  go_wp2_with fail
  go_ret
  exact ⟨rfl, rfl⟩
/-- The four together: whether it fits, the class, the place. -/
def okI (i : Nat) (s page : Int) : Bool := match i with
  | 0 => inI 48 (page - (64 * s + 1))
  | 1 => ok2 (page - 4096 * (s + 1))
  | 2 => decide (256 ≤ page - 4096 * (s + 1) ∧ page - 4096 * (s + 1) < 4096)
  | _ => inI 4096 (page - 4096 * (s + 1))
def clI (i : Nat) (s page : Int) : Int := match i with
  | 1 => (page - 4096 * (s + 1) - 1) / 17
  | _ => 0
def plI (i : Nat) (s page : Int) : Int := match i with
  | 0 => page - (64 * s + 1)
  | 1 => (page - 4096 * (s + 1) - 1) % 17
  | _ => page - 4096 * (s + 1)
def kindF (i : Nat) : FuncId := match i with
  | 0 => 37
  | 1 => 38
  | 2 => 39
  | _ => 40
theorem k_all (i : Nat) (s page : Int) (hs : slotI s = true) (hp : inI 65536 page = true) (w : World) : Calls Try.prog (kindF i) #[.agg #[.int .i64 s], .int .i64 page, .int .i64 (page - 4096 * (s + 1))] w (SitePost w (okI i s page) (clI i s page) (plI i s page)) := by
  have hs' : 0 ≤ s ∧ s < 4 := by simpa [slotI] using hs
  have hp' : 0 ≤ page ∧ page < 65536 := by simpa [inI] using hp
  match i with
  | 0 => exact (k1 s page _ hs hp w).mono fun e w' ⟨h1, h2⟩ => ⟨_, _, h1, fun _ => ⟨rfl, rfl⟩, h2⟩
  | 1 => exact k2 s page _ (by omega) (by omega) w
  | 2 => exact (k3 s page _ w).mono fun e w' ⟨h1, h2⟩ => ⟨_, _, h1, fun _ => ⟨rfl, rfl⟩, h2⟩
  | _ + 3 => exact (k4 s page _ w).mono fun e w' ⟨h1, h2⟩ => ⟨_, _, h1, fun _ => ⟨rfl, rfl⟩, h2⟩
theorem k_enters (i : Nat) (args : Array Value) (w : World) : (callFunc (kindF i) args).run Try.prog w = .ok (.enter (kindF i) args) w := by
  match i with
  | 0 => exact enters_of Try.func37 (by kernel_rfl) rfl args w
  | 1 => exact enters_of Try.func38 (by kernel_rfl) rfl args w
  | 2 => exact enters_of Try.func39 (by kernel_rfl) rfl args w
  | _ + 3 => exact enters_of Try.func40 (by kernel_rfl) rfl args w
theorem kind_cells (i : Nat) (h : i < 4) : kindCells[2 * i]? = some (.int .i64 (i + 1)) ∧ kindCells[2 * i + 1]? = some (.func (.func (kindF i)) #[] #[]) := by
  match i, h with
  | 0, _ => exact ⟨rfl, rfl⟩
  | 1, _ => exact ⟨rfl, rfl⟩
  | 2, _ => exact ⟨rfl, rfl⟩
  | 3, _ => exact ⟨rfl, rfl⟩
end Go.Proofs.Ytcgdipkmcgionaa
