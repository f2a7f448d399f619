/-
  Package pinfoldlaw21: none. No condition.
-/
import Derived.Test.YtchknegenaoliaaDeAct
namespace Go.Proofs.Ytchknegenaoliaa
open Go.RowKit
attribute [local go_sem] Oper.semAt_some
set_option maxHeartbeats 2000000
set_option maxRecDepth 4000

/-- What none has laid. -/
structure NoI (w wr : World) (p : Option Addr) (g : Nat) : Prop where
  n : NoDk wr p
  k : Below w.heap.size w wr
  h : Blk wr g #[.int .i64 0, .int .i64 1] 28
theorem NoI.step {w wr w' : World} {p : Option Addr} {g : Nat} (h : NoI w wr p g) (k : Below wr.heap.size wr w') : NoI w w' p g := ⟨h.n.step k, h.k.trans (k.mono h.k.size), h.h.below k h.h.lt⟩
theorem Same_nn' {w : World} {p : Option Addr} (h : NoDk w p) : Calls Try.prog 20 #[.pointer p, .pointer none] w fun e w' => e = .returned (.bool true) ∧ Below w.heap.size w w' := Same_nn h (.inl rfl)
theorem none_ok (z : Bool) (w : World) : Calls Try.prog 19 #[.bool z] w fun e w' => e = .returned (.bool true) ∧ Below w.heap.size w w' := by
  cases z with
  | false =>
    go_enter Try.func19, Try.ntmps19
    go_wp2_with fail
    generalize hw0 : World.alloc w _ = w0
    have HN : NoI w w0 none w.heap.size := ⟨.inl rfl, by rw [← hw0]; exact (Below.refl _ w).alloc (Nat.le_refl _) _, by rw [← hw0]; exact Blk.new w _ _⟩
    obtain ⟨g, hg⟩ : ∃ g, w.heap.size = g := ⟨_, rfl⟩
    rw [hg] at HN
    clear hw0
    refine (Create_none HN.n 0 0 0).mono ?_; rintro e w1 ⟨rfl, j1⟩
    replace HN := HN.step j1
    rw [show encH ⟨0, 0⟩ = .agg #[.int .i64 0, .int .i64 0] from rfl]
    clear j1
    have x0 : World.cell? w1 ⟨g, 0, none⟩ = some (.int .i64 0) := HN.h.cell 0 rfl
    have x1 : World.cell? w1 ⟨g, 1, none⟩ = some (.int .i64 1) := HN.h.cell 1 rfl
    have hlt := HN.h.lt
    go_wp2_with fail
    clear x0 x1 hlt
    generalize hWn : World.alloc w1 _ = w2
    have j2 : Below w1.heap.size w1 w2 := by rw [← hWn]; exact (Below.refl _ w1).alloc (Nat.le_refl _) _
    replace HN := HN.step j2
    clear j2 hWn
    refine (Destroy_none HN.n ⟨0, 1⟩).mono ?_; rintro e w3 ⟨rfl, j1⟩
    replace HN := HN.step j1
    clear j1
    have x0 : World.cell? w3 ⟨g, 0, none⟩ = some (.int .i64 0) := HN.h.cell 0 rfl
    have x1 : World.cell? w3 ⟨g, 1, none⟩ = some (.int .i64 1) := HN.h.cell 1 rfl
    have hlt := HN.h.lt
    go_wp2_with fail
    clear x0 x1 hlt
    refine (Info_none HN.n ⟨0, 1⟩).mono ?_; rintro e w4 ⟨rfl, j1⟩
    replace HN := HN.step j1
    clear j1
    have x0 : World.cell? w4 ⟨g, 0, none⟩ = some (.int .i64 0) := HN.h.cell 0 rfl
    have x1 : World.cell? w4 ⟨g, 1, none⟩ = some (.int .i64 1) := HN.h.cell 1 rfl
    have hlt := HN.h.lt
    go_wp2_with fail
    clear x0 x1 hlt
    refine (Bind_none HN.n 0 ⟨0, 1⟩).mono ?_; rintro e w5 ⟨rfl, j1⟩
    replace HN := HN.step j1
    rw [show encH ⟨0, 0⟩ = .agg #[.int .i64 0, .int .i64 0] from rfl]
    clear j1
    have x0 : World.cell? w5 ⟨g, 0, none⟩ = some (.int .i64 0) := HN.h.cell 0 rfl
    have x1 : World.cell? w5 ⟨g, 1, none⟩ = some (.int .i64 1) := HN.h.cell 1 rfl
    have hlt := HN.h.lt
    go_wp2_with fail
    clear x0 x1 hlt
    generalize hWn : World.alloc w5 _ = w6
    have j2 : Below w5.heap.size w5 w6 := by rw [← hWn]; exact (Below.refl _ w5).alloc (Nat.le_refl _) _
    replace HN := HN.step j2
    clear j2 hWn
    refine (Unbind_none HN.n 0).mono ?_; rintro e w7 ⟨rfl, j1⟩
    replace HN := HN.step j1
    rw [show encH ⟨0, 0⟩ = .agg #[.int .i64 0, .int .i64 0] from rfl]
    clear j1
    have x0 : World.cell? w7 ⟨g, 0, none⟩ = some (.int .i64 0) := HN.h.cell 0 rfl
    have x1 : World.cell? w7 ⟨g, 1, none⟩ = some (.int .i64 1) := HN.h.cell 1 rfl
    have hlt := HN.h.lt
    go_wp2_with fail
    clear x0 x1 hlt
    generalize hWn : World.alloc w7 _ = w8
    have j2 : Below w7.heap.size w7 w8 := by rw [← hWn]; exact (Below.refl _ w7).alloc (Nat.le_refl _) _
    replace HN := HN.step j2
    clear j2 hWn
    refine (Of_none HN.n 0).mono ?_; rintro e w9 ⟨rfl, j1⟩
    replace HN := HN.step j1
    rw [show encH ⟨0, 0⟩ = .agg #[.int .i64 0, .int .i64 0] from rfl]
    clear j1
    have x0 : World.cell? w9 ⟨g, 0, none⟩ = some (.int .i64 0) := HN.h.cell 0 rfl
    have x1 : World.cell? w9 ⟨g, 1, none⟩ = some (.int .i64 1) := HN.h.cell 1 rfl
    have hlt := HN.h.lt
    go_wp2_with fail
    clear x0 x1 hlt
    generalize hWn : World.alloc w9 _ = wa
    have j2 : Below w9.heap.size w9 wa := by rw [← hWn]; exact (Below.refl _ w9).alloc (Nat.le_refl _) _
    replace HN := HN.step j2
    clear j2 hWn
    refine (num_calls _ _).mono ?_; rintro e _ ⟨rfl, rfl⟩
    go_wp2_with fail
    refine (num_calls _ _).mono ?_; rintro e _ ⟨rfl, rfl⟩
    go_wp2_with fail
    refine (num_calls _ _).mono ?_; rintro e _ ⟨rfl, rfl⟩
    go_wp2_with fail
    refine (num_calls _ _).mono ?_; rintro e _ ⟨rfl, rfl⟩
    go_wp2_with fail
    have x0 : World.cell? wa ⟨g, 0, none⟩ = some (.int .i64 0) := HN.h.cell 0 rfl
    have x1 : World.cell? wa ⟨g, 1, none⟩ = some (.int .i64 1) := HN.h.cell 1 rfl
    refine (num_calls _ _).mono ?_; rintro e _ ⟨rfl, rfl⟩
    go_wp2_with fail
    clear x0 x1
    refine (Check_none HN.n ⟨0, 1⟩).mono ?_; rintro e wb ⟨rfl, j1⟩
    replace HN := HN.step j1
    clear j1
    go_wp2_with fail
    have x0 : World.cell? wb ⟨g, 0, none⟩ = some (.int .i64 0) := HN.h.cell 0 rfl
    have x1 : World.cell? wb ⟨g, 1, none⟩ = some (.int .i64 1) := HN.h.cell 1 rfl
    refine (num_calls _ _).mono ?_; rintro e _ ⟨rfl, rfl⟩
    go_wp2_with fail
    clear x0 x1
    refine (Threads_none HN.n ⟨0, 1⟩).mono ?_; rintro e wc ⟨rfl, j1⟩
    replace HN := HN.step j1
    clear j1
    go_wp2_with fail
    refine (all_ok (P := [zT, zT, zT, zT]) (.inr ⟨HN.n, rfl⟩) 9 (by decide) (by decide)).mono ?_; rintro e wd ⟨v, rfl, ho, j1⟩
    rw [show tenL [zT, zT, zT, zT] = [] from rfl] at ho
    obtain ⟨va, vc, rfl, _⟩ := (RowAt.of_owns ho (Nat.le_refl _)).len
    replace HN := HN.step j1
    clear j1 ho
    go_wp2_with fail
    refine (Copy_no HN.n).mono ?_; rintro e we ⟨rfl, j1⟩
    replace HN := HN.step j1
    clear j1
    go_wp2_with fail
    refine (Same_nn' HN.n).mono ?_; rintro e wf ⟨rfl, j1⟩
    replace HN := HN.step j1
    clear j1
    go_wp2_with fail
    go_ret
    exact ⟨rfl, HN.k⟩
  | true =>
    go_enter Try.func19, Try.ntmps19
    go_wp2_with fail
    generalize hw0 : World.alloc (World.alloc w _) _ = w0
    have HN : NoI w w0 (some ⟨w.heap.size, 0, none⟩) (w.heap.size + 1) := ⟨.inr ⟨w.heap.size, rfl, by rw [← hw0]; exact ((Blk.new w _ _).alloc _).cell 16 rfl⟩, by rw [← hw0]; exact ((Below.refl _ w).alloc (Nat.le_refl _) _).alloc (by simp) _, by rw [← hw0]; exact Blk.newAt _ _ _ (by simp)⟩
    obtain ⟨g, hg⟩ : ∃ g, w.heap.size + 1 = g := ⟨_, rfl⟩
    rw [hg] at HN
    clear hw0
    refine (Create_none HN.n 0 0 0).mono ?_; rintro e w1 ⟨rfl, j1⟩
    replace HN := HN.step j1
    rw [show encH ⟨0, 0⟩ = .agg #[.int .i64 0, .int .i64 0] from rfl]
    clear j1
    have x0 : World.cell? w1 ⟨g, 0, none⟩ = some (.int .i64 0) := HN.h.cell 0 rfl
    have x1 : World.cell? w1 ⟨g, 1, none⟩ = some (.int .i64 1) := HN.h.cell 1 rfl
    have hlt := HN.h.lt
    go_wp2_with fail
    clear x0 x1 hlt
    generalize hWn : World.alloc w1 _ = w2
    have j2 : Below w1.heap.size w1 w2 := by rw [← hWn]; exact (Below.refl _ w1).alloc (Nat.le_refl _) _
    replace HN := HN.step j2
    clear j2 hWn
    refine (Destroy_none HN.n ⟨0, 1⟩).mono ?_; rintro e w3 ⟨rfl, j1⟩
    replace HN := HN.step j1
    clear j1
    have x0 : World.cell? w3 ⟨g, 0, none⟩ = some (.int .i64 0) := HN.h.cell 0 rfl
    have x1 : World.cell? w3 ⟨g, 1, none⟩ = some (.int .i64 1) := HN.h.cell 1 rfl
    have hlt := HN.h.lt
    go_wp2_with fail
    clear x0 x1 hlt
    refine (Info_none HN.n ⟨0, 1⟩).mono ?_; rintro e w4 ⟨rfl, j1⟩
    replace HN := HN.step j1
    clear j1
    have x0 : World.cell? w4 ⟨g, 0, none⟩ = some (.int .i64 0) := HN.h.cell 0 rfl
    have x1 : World.cell? w4 ⟨g, 1, none⟩ = some (.int .i64 1) := HN.h.cell 1 rfl
    have hlt := HN.h.lt
    go_wp2_with fail
    clear x0 x1 hlt
    refine (Bind_none HN.n 0 ⟨0, 1⟩).mono ?_; rintro e w5 ⟨rfl, j1⟩
    replace HN := HN.step j1
    rw [show encH ⟨0, 0⟩ = .agg #[.int .i64 0, .int .i64 0] from rfl]
    clear j1
    have x0 : World.cell? w5 ⟨g, 0, none⟩ = some (.int .i64 0) := HN.h.cell 0 rfl
    have x1 : World.cell? w5 ⟨g, 1, none⟩ = some (.int .i64 1) := HN.h.cell 1 rfl
    have hlt := HN.h.lt
    go_wp2_with fail
    clear x0 x1 hlt
    generalize hWn : World.alloc w5 _ = w6
    have j2 : Below w5.heap.size w5 w6 := by rw [← hWn]; exact (Below.refl _ w5).alloc (Nat.le_refl _) _
    replace HN := HN.step j2
    clear j2 hWn
    refine (Unbind_none HN.n 0).mono ?_; rintro e w7 ⟨rfl, j1⟩
    replace HN := HN.step j1
    rw [show encH ⟨0, 0⟩ = .agg #[.int .i64 0, .int .i64 0] from rfl]
    clear j1
    have x0 : World.cell? w7 ⟨g, 0, none⟩ = some (.int .i64 0) := HN.h.cell 0 rfl
    have x1 : World.cell? w7 ⟨g, 1, none⟩ = some (.int .i64 1) := HN.h.cell 1 rfl
    have hlt := HN.h.lt
    go_wp2_with fail
    clear x0 x1 hlt
    generalize hWn : World.alloc w7 _ = w8
    have j2 : Below w7.heap.size w7 w8 := by rw [← hWn]; exact (Below.refl _ w7).alloc (Nat.le_refl _) _
    replace HN := HN.step j2
    clear j2 hWn
    refine (Of_none HN.n 0).mono ?_; rintro e w9 ⟨rfl, j1⟩
    replace HN := HN.step j1
    rw [show encH ⟨0, 0⟩ = .agg #[.int .i64 0, .int .i64 0] from rfl]
    clear j1
    have x0 : World.cell? w9 ⟨g, 0, none⟩ = some (.int .i64 0) := HN.h.cell 0 rfl
    have x1 : World.cell? w9 ⟨g, 1, none⟩ = some (.int .i64 1) := HN.h.cell 1 rfl
    have hlt := HN.h.lt
    go_wp2_with fail
    clear x0 x1 hlt
    generalize hWn : World.alloc w9 _ = wa
    have j2 : Below w9.heap.size w9 wa := by rw [← hWn]; exact (Below.refl _ w9).alloc (Nat.le_refl _) _
    replace HN := HN.step j2
    clear j2 hWn
    refine (num_calls _ _).mono ?_; rintro e _ ⟨rfl, rfl⟩
    go_wp2_with fail
    refine (num_calls _ _).mono ?_; rintro e _ ⟨rfl, rfl⟩
    go_wp2_with fail
    refine (num_calls _ _).mono ?_; rintro e _ ⟨rfl, rfl⟩
    go_wp2_with fail
    refine (num_calls _ _).mono ?_; rintro e _ ⟨rfl, rfl⟩
    go_wp2_with fail
    have x0 : World.cell? wa ⟨g, 0, none⟩ = some (.int .i64 0) := HN.h.cell 0 rfl
    have x1 : World.cell? wa ⟨g, 1, none⟩ = some (.int .i64 1) := HN.h.cell 1 rfl
    refine (num_calls _ _).mono ?_; rintro e _ ⟨rfl, rfl⟩
    go_wp2_with fail
    clear x0 x1
    refine (Check_none HN.n ⟨0, 1⟩).mono ?_; rintro e wb ⟨rfl, j1⟩
    replace HN := HN.step j1
    clear j1
    go_wp2_with fail
    have x0 : World.cell? wb ⟨g, 0, none⟩ = some (.int .i64 0) := HN.h.cell 0 rfl
    have x1 : World.cell? wb ⟨g, 1, none⟩ = some (.int .i64 1) := HN.h.cell 1 rfl
    refine (num_calls _ _).mono ?_; rintro e _ ⟨rfl, rfl⟩
    go_wp2_with fail
    clear x0 x1
    refine (Threads_none HN.n ⟨0, 1⟩).mono ?_; rintro e wc ⟨rfl, j1⟩
    replace HN := HN.step j1
    clear j1
    go_wp2_with fail
    refine (all_ok (P := [zT, zT, zT, zT]) (.inr ⟨HN.n, rfl⟩) 9 (by decide) (by decide)).mono ?_; rintro e wd ⟨v, rfl, ho, j1⟩
    rw [show tenL [zT, zT, zT, zT] = [] from rfl] at ho
    obtain ⟨va, vc, rfl, _⟩ := (RowAt.of_owns ho (Nat.le_refl _)).len
    replace HN := HN.step j1
    clear j1 ho
    go_wp2_with fail
    refine (Copy_no HN.n).mono ?_; rintro e we ⟨rfl, j1⟩
    replace HN := HN.step j1
    clear j1
    go_wp2_with fail
    refine (Same_nn' HN.n).mono ?_; rintro e wf ⟨rfl, j1⟩
    replace HN := HN.step j1
    clear j1
    go_wp2_with fail
    go_ret
    exact ⟨rfl, HN.k⟩
end Go.Proofs.Ytchknegenaoliaa
