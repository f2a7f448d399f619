/-
  Package pinfoldlaw08: num, works. No condition.
-/
import Derived.Test.YtchepkihlnpfeaaPgO
namespace Go.Proofs.Ytchepkihlnpfeaa
open Go.RowKit
attribute [local go_sem] Oper.semAt_some
set_option maxHeartbeats 4000000
set_option maxRecDepth 8000

theorem num_calls (e : Int) (w : World) : Calls Try.prog 24 #[.int .i64 e] w fun x w' => x = .returned (.int .i64 e) ∧ w = w' := by
  go_enter Try.func24, Try.ntmps24
  go_wp2_with fail
  go_ret
  exact ⟨rfl, rfl⟩
def d1 : Tb := [(5, ⟨1, 1, 0⟩)]
def d2 : Tb := [(5, ⟨1, 2, 0⟩)]
theorem good1 : Good d1 := ⟨by simp [SrtR, d1], by simp [d1], by simp [d1]⟩
theorem good2 : Good d2 := ⟨by simp [SrtR, d2], by simp [d2], by simp [d2]⟩
/-- A table that stands, and what has been made since. -/
structure Tst (w W : World) (b m : Nat) (D : Tb) : Prop where
  t : TblAt W b m D
  k : Below w.heap.size w W
  lo : w.heap.size ≤ m
theorem Tst.step {w W W' : World} {b m : Nat} {D : Tb} (h : Tst w W b m D) (k : Below W.heap.size W W') : Tst w W' b m D := ⟨h.t.step k, h.k.trans (k.mono h.k.size), h.lo⟩
theorem Tst.to {w W W' : World} {b m : Nat} {D E : Tb} (h : Tst w W b m D) (h1 : TblAt W' b m E) (k : Chg m W W') : Tst w W' b m E := ⟨h1, h.k.trans (k.below h.lo h.k.size), h.lo⟩
theorem works_ok (w : World) : Calls Try.prog 7 #[] w fun e w' => e = .returned (.bool true) ∧ Below w.heap.size w w' := by
  go_enter Try.func7, Try.ntmps7
  go_wp2_with fail
  refine (New_calls w).mono ?_; rintro e W0 ⟨b, m, rfl, h0, l0, _, k0⟩
  have H0 : Tst w W0 b m [] := ⟨h0, k0, l0⟩
  clear h0 k0 l0
  go_wp2_with fail
  refine (Map_ok H0.t (by decide) 5 ⟨1, 1, 0⟩).mono ?_; rintro e W1 ⟨rfl, h1, k1⟩
  have H1 : Tst w W1 b m d1 := H0.to h1 k1
  rw [show mapE [] 5 ⟨1, 1, 0⟩ = 0 from by decide]
  clear h1 k1
  go_wp2_with fail
  refine (Map_ok H1.t (by decide) 5 ⟨1, 0, 0⟩).mono ?_; rintro e W2 ⟨rfl, h2, k2⟩
  have H2 : Tst w W2 b m d1 := H1.to h2 k2
  rw [show mapE d1 5 ⟨1, 0, 0⟩ = 180 from by decide]
  clear h2 k2
  go_wp2_with fail
  refine (Map_ok H2.t (by decide) 6 ⟨1, 0, 0⟩).mono ?_; rintro e W3 ⟨rfl, h3, k3⟩
  have H3 : Tst w W3 b m d1 := H2.to h3 k3
  rw [show mapE d1 6 ⟨1, 0, 0⟩ = 181 from by decide]
  clear h3 k3
  go_wp2_with fail
  refine (Protect_ok H3.t good1.srt 5 2).mono ?_; rintro e W4 ⟨rfl, h4, k4⟩
  have H4 : Tst w W4 b m d2 := H3.to h4 k4
  rw [show proW d1 5 2 = 1 from by decide, show proE d1 5 2 = 0 from by decide]
  clear h4 k4
  go_wp2_with fail
  refine (Get_ok H4.t 5).mono ?_; rintro e W5 ⟨rfl, k5⟩
  have H5 := H4.step k5
  rw [show encE (getE d2 5) = .agg #[.int .i64 1, .int .i64 2, .int .i64 0] from rfl, show hasR d2 5 = true from by decide]
  clear k5
  go_wp2_with fail
  have k6 : Below W5.heap.size W5 (W5.alloc (.cells #[.int .i64 1, .int .i64 2, .int .i64 0] 31)) := (Below.refl _ W5).alloc (Nat.le_refl _) _
  have hX6 : Blk (W5.alloc (.cells #[.int .i64 1, .int .i64 2, .int .i64 0] 31)) W5.heap.size #[.int .i64 1, .int .i64 2, .int .i64 0] 31 := Blk.new W5 _ _
  have H6 := H5.step k6
  clear k6
  generalize W5.alloc (.cells #[.int .i64 1, .int .i64 2, .int .i64 0] 31) = W6 at hX6 H6 ⊢
  refine (Free_ok H6.t good2 (by decide) 4 2 (by decide)).mono ?_; rintro e W7 ⟨rfl, k7⟩
  have H7 := H6.step k7
  have hX7 := hX6.below k7 hX6.lt
  rw [show frB d2 4 2 = false from by decide, show freE 4 2 = 0 from by decide]
  clear k7
  go_wp2_with fail
  refine (Free_ok H7.t good2 (by decide) 65535 2 (by decide)).mono ?_; rintro e W8 ⟨rfl, k8⟩
  have H8 := H7.step k8
  have hX8 := hX7.below k8 hX7.lt
  rw [show freE 65535 2 = 4 from by decide]
  clear k8
  generalize frB d2 65535 2 = fb
  go_wp2_with fail
  refine (Next_ok H8.t good2 (by decide) 4 2 (by decide)).mono ?_; rintro e W9 ⟨rfl, k9⟩
  have H9 := H8.step k9
  have hX9 := hX8.below k9 hX8.lt
  rw [show nxV d2 4 2 = 6 from by decide, show nxB d2 4 2 = true from by decide]
  clear k9
  go_wp2_with fail
  refine (Unmap_ok H9.t good2.srt 6).mono ?_; rintro e Wa ⟨rfl, ha, ka⟩
  have Ha : Tst w Wa b m d2 := H9.to ha ka
  have hne : W5.heap.size ≠ m := by have := H5.t.mp.lt; omega
  have hXa := ka.blk hX9 hne
  rw [show unmE d2 6 = 5 from by decide, show encE (unmX d2 6) = .agg #[.int .i64 0, .int .i64 0, .int .i64 0] from rfl]
  clear ha ka
  go_wp2_with fail
  have kb : Below Wa.heap.size Wa (Wa.alloc (.cells #[.int .i64 0, .int .i64 0, .int .i64 0] 31)) := (Below.refl _ Wa).alloc (Nat.le_refl _) _
  have Hb := Ha.step kb
  have hXb := hXa.below kb hXa.lt
  clear kb
  generalize Wa.alloc (.cells #[.int .i64 0, .int .i64 0, .int .i64 0] 31) = Wb at hXb Hb ⊢
  have x0 := hXb.cell 0 rfl
  have x1 := hXb.cell 1 rfl
  have x2 := hXb.cell 2 rfl
  refine (num_calls _ _).mono ?_; rintro e _ ⟨rfl, rfl⟩
  go_wp2_with fail
  refine (num_calls _ _).mono ?_; rintro e _ ⟨rfl, rfl⟩
  go_wp2_with fail
  refine (num_calls _ _).mono ?_; rintro e _ ⟨rfl, rfl⟩
  go_wp2_with fail
  refine (num_calls _ _).mono ?_; rintro e _ ⟨rfl, rfl⟩
  go_wp2_with fail
  refine (num_calls _ _).mono ?_; rintro e _ ⟨rfl, rfl⟩
  go_wp2_with fail
  refine (num_calls _ _).mono ?_; rintro e _ ⟨rfl, rfl⟩
  go_wp2_with fail
  refine (num_calls _ _).mono ?_; rintro e _ ⟨rfl, rfl⟩
  go_wp2_with fail
  refine (Map_ok Hb.t (by decide) 1 ⟨64, 0, 0⟩).mono ?_; rintro e Wc ⟨rfl, hc, kc⟩
  have Hc : Tst w Wc b m d2 := Hb.to hc kc
  rw [show mapE d2 1 ⟨64, 0, 0⟩ = 2 from by decide]
  go_wp2_with fail
  refine (num_calls _ _).mono ?_; rintro e _ ⟨rfl, rfl⟩
  go_wp2_with fail
  go_ret
  exact ⟨rfl, Hc.k⟩
end Go.Proofs.Ytchepkihlnpfeaa
