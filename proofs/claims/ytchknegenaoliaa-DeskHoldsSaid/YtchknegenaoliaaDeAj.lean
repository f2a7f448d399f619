/-
  Package pinfoldlaw21: works. No condition.
-/
import Derived.Test.YtchknegenaoliaaDeAi
namespace Go.Proofs.Ytchknegenaoliaa
open Go.RowKit
attribute [local go_sem] Oper.semAt_some
set_option maxHeartbeats 2000000
set_option maxRecDepth 4000

theorem Chg2.cell {c d : Nat} {W W' : World} (h : Chg2 c d W W') {g o : Nat} {v : Value} (hc : W.cell? ⟨g, o, none⟩ = some v) (h1 : g ≠ c) (h2 : g ≠ d) : W'.cell? ⟨g, o, none⟩ = some v :=
  (World.cell?_of_block (a := ⟨g, o, none⟩) (h.block g (World.block_lt_of_cell? W _ hc) h1 h2)).trans hc
theorem cell_alloc {W W' : World} {ob : Obj} (hW : W.alloc ob = W') {g o : Nat} {v : Value} (hc : W.cell? ⟨g, o, none⟩ = some v) : W'.cell? ⟨g, o, none⟩ = some v := by
  subst hW
  exact (((Below.refl W.heap.size W).alloc (Nat.le_refl _) ob).cell (p := ⟨g, o, none⟩) (World.block_lt_of_cell? W _ hc)).trans hc
theorem works_ok (w : World) : Calls Try.prog 6 #[] w fun e w' => e = .returned (.bool true) ∧ Below w.heap.size w w' := by
  go_enter Try.func6, Try.ntmps6
  go_wp2_with fail
  refine (New_calls w).mono ?_; rintro e W ⟨b, m, rfl, h0, l0, l1, k0⟩
  have H : Wst w W b m P0 [] [] := ⟨h0, k0, l1, l0, fun x hx => absurd hx (by simp)⟩
  clear h0 k0 l0 l1
  go_wp2_with fail
  refine (Create_ok H.t gd0 (by decide) 1 100 9).mono ?_; rintro e W1 ⟨rfl, h, k⟩
  rw [show creP P0 1 100 9 = P1 from by decide] at h
  replace H := H.to h (k.l m)
  rw [show creH P0 1 100 9 = ⟨1, 1⟩ from by decide, show creE P0 1 100 9 = 0 from by decide, show encH ⟨1, 1⟩ = .agg #[.int .i64 1, .int .i64 1] from rfl]
  clear h k
  obtain ⟨Wn, hWn⟩ : ∃ Wn, W1.alloc (.cells #[.int .i64 1, .int .i64 1] 28) = Wn := ⟨_, rfl⟩
  replace H := H.box 1 1 hWn
  obtain ⟨ga, hn9⟩ : ∃ n9, W1.heap.size = n9 := ⟨_, rfl⟩
  rw [hn9] at H
  go_wp2_with fail
  clear hWn hn9
  refine (Create_ok H.t gd1 (by decide) 1 1 1).mono ?_; rintro e W2 ⟨rfl, h, k⟩
  rw [show creP P1 1 1 1 = P1 from by decide] at h
  replace H := H.to h (k.l m)
  rw [show creH P1 1 1 1 = ⟨0, 0⟩ from by decide, show creE P1 1 1 1 = 310 from by decide, show encH ⟨0, 0⟩ = .agg #[.int .i64 0, .int .i64 0] from rfl]
  clear h k
  obtain ⟨x0, x1⟩ := H.c ga 1 1 (by simp)
  have hlt := (H.bx (ga, 1, 1) (by simp)).1.lt
  go_wp2_with fail
  clear x0 x1 hlt
  generalize hWn : W2.alloc (.cells #[.int .i64 0, .int .i64 0] 28) = Wn
  replace H := H.box 0 0 hWn
  obtain ⟨gb, hn9⟩ : ∃ n9, W2.heap.size = n9 := ⟨_, rfl⟩
  rw [hn9] at H
  clear hWn
  refine (Bind_ok H.t 0 ⟨1, 1⟩).mono ?_; rintro e W3 ⟨rfl, h, k⟩
  rw [show binT P1 [] 0 ⟨1, 1⟩ = T1 from by decide] at h
  replace H := H.to h (k.r b)
  rw [show binH P1 [] 0 ⟨1, 1⟩ = ⟨0, 0⟩ from by decide, show binE P1 0 ⟨1, 1⟩ = 0 from by decide, show encH ⟨0, 0⟩ = .agg #[.int .i64 0, .int .i64 0] from rfl]
  clear h k
  obtain ⟨x0, x1⟩ := H.c ga 1 1 (by simp)
  have hlt := (H.bx (ga, 1, 1) (by simp)).1.lt
  go_wp2_with fail
  clear x0 x1 hlt
  generalize hWn : W3.alloc (.cells #[.int .i64 0, .int .i64 0] 28) = Wn
  replace H := H.box 0 0 hWn
  obtain ⟨gc, hn9⟩ : ∃ n9, W3.heap.size = n9 := ⟨_, rfl⟩
  rw [hn9] at H
  clear hWn
  have hbl := H.t.blk.lt
  have hml := H.t.mp.lt
  refine (Destroy_ok H.t gd2.srt gd2.key ⟨1, 1⟩).mono ?_; rintro e W4 ⟨v, rfl, ho, h, k⟩
  rw [show desP P1 ⟨1, 1⟩ = P2 from by decide, show desT P1 T1 ⟨1, 1⟩ = [] from by decide] at h
  replace H := H.to h k
  rw [show chkE P1 ⟨1, 1⟩ = 0 from by decide]
  rw [show thO P1 T1 ⟨1, 1⟩ = [(0, ⟨1, 1⟩)] from by decide] at ho
  have hr : RowAt W4.heap.size W4 v 1 (intVals .i64 [0]) := RowAt.of_owns ho (Nat.le_refl _)
  obtain ⟨a4, c4, rfl, _⟩ := hr.len
  obtain ⟨rb, ro, rfl, _, hq⟩ := hr.geti 0 (by decide)
  have hro : ro = 0 := by
    rcases ho.2 with ⟨h1, _⟩ | ⟨g, cap, cur, h1, _⟩
    · cases h1
    · simp only [Value.slice.injEq, Option.some.injEq, Addr.mk.injEq, and_true] at h1
      exact h1.1.2
  subst hro
  have hrb := (owns_block ho rb rfl).1
  have nb : rb ≠ b := by omega
  have nm : rb ≠ m := by omega
  have hq' : W4.cell? ⟨rb, 0, none⟩ = some (.int .i64 0) := hq
  clear h k hr ho hq hrb hbl hml
  go_wp2_with fail
  refine (Of_ok H.t 0).mono ?_; rintro e W5 ⟨rfl, k⟩
  rw [show hasR ([] : Thr) 0 = false from rfl, show getH [] 0 = ⟨0, 0⟩ from rfl, show encH ⟨0, 0⟩ = .agg #[.int .i64 0, .int .i64 0] from rfl]
  replace H := H.step k
  replace hq' := (k.cell (p := ⟨rb, 0, none⟩) (World.block_lt_of_cell? W4 _ hq')).trans hq'
  clear k
  obtain ⟨x0, x1⟩ := H.c ga 1 1 (by simp)
  have hlt := (H.bx (ga, 1, 1) (by simp)).1.lt
  go_wp2_with fail
  clear x0 x1 hlt
  generalize hWn : W5.alloc (.cells #[.int .i64 0, .int .i64 0] 28) = Wn
  replace H := H.box 0 0 hWn
  obtain ⟨gd, hn9⟩ : ∃ n9, W5.heap.size = n9 := ⟨_, rfl⟩
  rw [hn9] at H
  replace hq' := cell_alloc hWn hq'
  clear hWn
  refine (Check_ok H.t ⟨1, 1⟩).mono ?_; rintro e W6 ⟨rfl, k⟩
  rw [show chkE P2 ⟨1, 1⟩ = 311 from by decide]
  replace H := H.step k
  replace hq' := (k.cell (p := ⟨rb, 0, none⟩) (World.block_lt_of_cell? _ _ hq')).trans hq'
  clear k
  go_wp2_with fail
  refine (Create_ok H.t gd3 (by decide) 1 5 5).mono ?_; rintro e W7 ⟨rfl, h, k⟩
  rw [show creP P2 1 5 5 = P3 from by decide] at h
  replace H := H.to h (k.l m)
  replace hq' := (k.l m).cell hq' nb nm
  rw [show creH P2 1 5 5 = ⟨1, 2⟩ from by decide, show creE P2 1 5 5 = 0 from by decide, show encH ⟨1, 2⟩ = .agg #[.int .i64 1, .int .i64 2] from rfl]
  clear h k
  obtain ⟨Wn, hWn⟩ : ∃ Wn, W7.alloc (.cells #[.int .i64 1, .int .i64 2] 28) = Wn := ⟨_, rfl⟩
  replace H := H.box 1 2 hWn
  obtain ⟨ge, hn9⟩ : ∃ n9, W7.heap.size = n9 := ⟨_, rfl⟩
  rw [hn9] at H
  replace hq' := cell_alloc hWn hq'
  obtain ⟨x0, x1⟩ := H.c ga 1 1 (by simp)
  go_wp2_with fail
  clear hWn hn9 x0 x1
  refine (Bind_ok H.t 3 ⟨1, 1⟩).mono ?_; rintro e W8 ⟨rfl, h, k⟩
  rw [show binT P3 [] 3 ⟨1, 1⟩ = [] from by decide] at h
  replace H := H.to h (k.r b)
  replace hq' := (k.r b).cell hq' nb nm
  rw [show binH P3 [] 3 ⟨1, 1⟩ = ⟨0, 0⟩ from by decide, show binE P3 3 ⟨1, 1⟩ = 311 from by decide, show encH ⟨0, 0⟩ = .agg #[.int .i64 0, .int .i64 0] from rfl]
  clear h k
  obtain ⟨x0, x1⟩ := H.c ge 1 2 (by simp)
  have hlt := (H.bx (ge, 1, 2) (by simp)).1.lt
  go_wp2_with fail
  clear x0 x1 hlt
  generalize hWn : W8.alloc (.cells #[.int .i64 0, .int .i64 0] 28) = Wn
  replace H := H.box 0 0 hWn
  obtain ⟨gf, hn9⟩ : ∃ n9, W8.heap.size = n9 := ⟨_, rfl⟩
  rw [hn9] at H
  replace hq' := cell_alloc hWn hq'
  clear hWn
  refine (Bind_ok H.t 4 ⟨1, 2⟩).mono ?_; rintro e W9 ⟨rfl, h, k⟩
  rw [show binT P3 [] 4 ⟨1, 2⟩ = [] from by decide] at h
  replace H := H.to h (k.r b)
  replace hq' := (k.r b).cell hq' nb nm
  rw [show binH P3 [] 4 ⟨1, 2⟩ = ⟨0, 0⟩ from by decide, show binE P3 4 ⟨1, 2⟩ = 2 from by decide, show encH ⟨0, 0⟩ = .agg #[.int .i64 0, .int .i64 0] from rfl]
  clear h k
  go_wp2_with fail
  generalize hWn : W9.alloc (.cells #[.int .i64 0, .int .i64 0] 28) = Wn
  replace H := H.box 0 0 hWn
  obtain ⟨gg, hn9⟩ : ∃ n9, W9.heap.size = n9 := ⟨_, rfl⟩
  rw [hn9] at H
  replace hq' := cell_alloc hWn hq'
  clear hWn
  refine (Create_ok H.t gd4 (by decide) 4 0 0).mono ?_; rintro e Wa ⟨rfl, h, k⟩
  rw [show creP P3 4 0 0 = P3 from by decide] at h
  replace H := H.to h (k.l m)
  replace hq' := (k.l m).cell hq' nb nm
  rw [show creH P3 4 0 0 = ⟨0, 0⟩ from by decide, show creE P3 4 0 0 = 2 from by decide, show encH ⟨0, 0⟩ = .agg #[.int .i64 0, .int .i64 0] from rfl]
  clear h k
  obtain ⟨x0, x1⟩ := H.c ge 1 2 (by simp)
  have hlt := (H.bx (ge, 1, 2) (by simp)).1.lt
  go_wp2_with fail
  clear x0 x1 hlt
  generalize hWn : Wa.alloc (.cells #[.int .i64 0, .int .i64 0] 28) = Wn
  replace H := H.box 0 0 hWn
  obtain ⟨gh, hn9⟩ : ∃ n9, Wa.heap.size = n9 := ⟨_, rfl⟩
  rw [hn9] at H
  replace hq' := cell_alloc hWn hq'
  clear hWn
  refine (Info_ok H.t ⟨1, 2⟩).mono ?_; rintro e Wb ⟨rfl, k⟩
  rw [show infQ P3 ⟨1, 2⟩ = 5 from by decide, show infF P3 ⟨1, 2⟩ = 5 from by decide, show chkE P3 ⟨1, 2⟩ = 0 from by decide]
  replace H := H.step k
  replace hq' := (k.cell (p := ⟨rb, 0, none⟩) (World.block_lt_of_cell? _ _ hq')).trans hq'
  obtain ⟨x0, x1⟩ := H.c ga 1 1 (by simp)
  obtain ⟨y0, y1⟩ := H.c gc 0 0 (by simp)
  obtain ⟨z0, z1⟩ := H.c ge 1 2 (by simp)
  have HK := Lib.hid H.k
  clear k H
  go_wp2_with fail
  refine (num_calls _ _).mono ?_; rintro e _ ⟨rfl, rfl⟩
  go_wp2_with fail
  refine (num_calls _ _).mono ?_; rintro e _ ⟨rfl, rfl⟩
  go_wp2_with fail
  refine (num_calls _ _).mono ?_; rintro e _ ⟨rfl, rfl⟩
  go_wp2_with fail
  refine (num_calls _ _).mono ?_; rintro e _ ⟨rfl, rfl⟩
  go_wp2_with fail
  refine (num_calls _ _).mono ?_; rintro e _ ⟨rfl, rfl⟩
  go_wp2_with fail
  refine (num_calls _ _).mono ?_; rintro e _ ⟨rfl, rfl⟩
  go_wp2_with fail
  refine (num_calls _ _).mono ?_; rintro e _ ⟨rfl, rfl⟩
  go_wp2_with fail
  refine (num_calls _ _).mono ?_; rintro e _ ⟨rfl, rfl⟩
  go_wp2_with fail
  refine (num_calls _ _).mono ?_; rintro e _ ⟨rfl, rfl⟩
  go_wp2_with fail
  refine (num_calls _ _).mono ?_; rintro e _ ⟨rfl, rfl⟩
  go_wp2_with fail
  go_ret
  exact ⟨rfl, HK.out⟩
end Go.Proofs.Ytchknegenaoliaa
