/-
  Package pinfoldlaw08: none. No condition.
-/
import Derived.Test.YtchepkihlnpfeaaPgX
namespace Go.Proofs.Ytchepkihlnpfeaa
open Go.RowKit
attribute [local go_sem] Oper.semAt_some
set_option maxHeartbeats 4000000
set_option maxRecDepth 8000

/-- What none has laid. -/
structure NoI (w wr : World) (p : Option Addr) : Prop where
  n : NoTb wr p
  k : Below w.heap.size w wr
theorem NoI.step {w wr w' : World} {p : Option Addr} (h : NoI w wr p) (k : Below wr.heap.size wr w') : NoI w w' p := ⟨h.n.step k, h.k.trans (k.mono h.k.size)⟩
theorem none_ok (z : Bool) (w : World) : Calls Try.prog 13 #[.bool z] w fun e w' => e = .returned (.bool true) ∧ Below w.heap.size w w' := by
  cases z with
  | false =>
    have HN := Lib.hid (show NoI w w none from ⟨.inl rfl, Below.refl _ _⟩)
    go_enter Try.func13, Try.ntmps13
    go_wp2_with fail
    refine (Unmap_none HN.out.n 0).mono ?_; rintro e w1 ⟨rfl, j1⟩
    have HN1 := Lib.hid (HN.out.step j1)
    rw [show encE ⟨0, 0, 0⟩ = .agg #[.int .i64 0, .int .i64 0, .int .i64 0] from rfl]
    clear HN j1
    go_wp2_with fail
    generalize hw2 : World.alloc w1 _ = w2
    have j2 : Below w1.heap.size w1 w2 := by rw [← hw2]; exact (Below.refl _ w1).alloc (Nat.le_refl _) _
    have HN2 := Lib.hid (HN1.out.step j2)
    clear HN1 j2 hw2
    refine (Protect_none HN2.out.n 0 0).mono ?_; rintro e w3 ⟨rfl, j1⟩
    have HN3 := Lib.hid (HN2.out.step j1)
    clear HN2 j1
    go_wp2_with fail
    refine (Get_none HN3.out.n 0).mono ?_; rintro e w4 ⟨rfl, j1⟩
    have HN4 := Lib.hid (HN3.out.step j1)
    rw [show encE ⟨0, 0, 0⟩ = .agg #[.int .i64 0, .int .i64 0, .int .i64 0] from rfl]
    clear HN3 j1
    go_wp2_with fail
    generalize hw5 : World.alloc w4 _ = w5
    have j2 : Below w4.heap.size w4 w5 := by rw [← hw5]; exact (Below.refl _ w4).alloc (Nat.le_refl _) _
    have HN5 := Lib.hid (HN4.out.step j2)
    clear HN4 j2 hw5
    refine (Free_none HN5.out.n 0 1).mono ?_; rintro e w6 ⟨rfl, j1⟩
    have HN6 := Lib.hid (HN5.out.step j1)
    clear HN5 j1
    go_wp2_with fail
    refine (Next_none HN6.out.n 0 1).mono ?_; rintro e w7 ⟨rfl, j1⟩
    have HN7 := Lib.hid (HN6.out.step j1)
    clear HN6 j1
    go_wp2_with fail
    refine (num_calls _ _).mono ?_; rintro e _ ⟨rfl, rfl⟩
    go_wp2_with fail
    refine (num_calls _ _).mono ?_; rintro e _ ⟨rfl, rfl⟩
    go_wp2_with fail
    refine (num_calls _ _).mono ?_; rintro e _ ⟨rfl, rfl⟩
    go_wp2_with fail
    refine (Map_none HN7.out.n 0 ⟨0, 0, 0⟩).mono ?_; rintro e w8 ⟨rfl, j1⟩
    have HN8 := Lib.hid (HN7.out.step j1)
    clear HN7 j1
    go_wp2_with fail
    refine (num_calls _ _).mono ?_; rintro e _ ⟨rfl, rfl⟩
    go_wp2_with fail
    refine (Len_none HN8.out.n).mono ?_; rintro e w9 ⟨rfl, j1⟩
    have HN9 := Lib.hid (HN8.out.step j1)
    clear HN8 j1
    go_wp2_with fail
    refine (all_ok (D := []) (.inl ⟨HN9.out.n, rfl⟩) Good.nil (by decide) 1 9 (by decide) (by decide)).mono ?_; rintro e w10 ⟨va, rfl, o2, j1⟩
    have HN10 := Lib.hid (HN9.out.step j1)
    obtain ⟨aa, ac, rfl, _⟩ := (RowAt.of_owns o2 (Nat.le_refl _)).len
    rw [show (ofR [] 1).length = 0 from rfl]
    clear HN9 j1 o2
    go_wp2_with fail
    refine (Copy_none HN10.out.n).mono ?_; rintro e w11 ⟨rfl, j1⟩
    have HN11 := Lib.hid (HN10.out.step j1)
    clear HN10 j1
    go_wp2_with fail
    refine (Same_nn HN11.out.n (.inl rfl)).mono ?_; rintro e w12 ⟨rfl, j1⟩
    have HN12 := Lib.hid (HN11.out.step j1)
    clear HN11 j1
    go_wp2_with fail
    go_ret
    exact ⟨rfl, HN12.out.k⟩
  | true =>
    obtain ⟨w0, hw0⟩ : ∃ w0, w.alloc (.cells #[.map none] 75) = w0 := ⟨_, rfl⟩
    have HN := Lib.hid (show NoI w w0 (some ⟨w.heap.size, 0, none⟩) by
      rw [← hw0]
      exact ⟨.inr ⟨_, rfl, (Blk.new w #[.map none] 75).cell 0 rfl⟩, (Below.refl _ w).alloc (Nat.le_refl _) _⟩)
    go_enter Try.func13, Try.ntmps13
    go_wp2_with fail
    clear hw0
    go_wp2_with fail
    refine (Unmap_none HN.out.n 0).mono ?_; rintro e w1 ⟨rfl, j1⟩
    have HN1 := Lib.hid (HN.out.step j1)
    rw [show encE ⟨0, 0, 0⟩ = .agg #[.int .i64 0, .int .i64 0, .int .i64 0] from rfl]
    clear HN j1
    go_wp2_with fail
    generalize hw2 : World.alloc w1 _ = w2
    have j2 : Below w1.heap.size w1 w2 := by rw [← hw2]; exact (Below.refl _ w1).alloc (Nat.le_refl _) _
    have HN2 := Lib.hid (HN1.out.step j2)
    clear HN1 j2 hw2
    refine (Protect_none HN2.out.n 0 0).mono ?_; rintro e w3 ⟨rfl, j1⟩
    have HN3 := Lib.hid (HN2.out.step j1)
    clear HN2 j1
    go_wp2_with fail
    refine (Get_none HN3.out.n 0).mono ?_; rintro e w4 ⟨rfl, j1⟩
    have HN4 := Lib.hid (HN3.out.step j1)
    rw [show encE ⟨0, 0, 0⟩ = .agg #[.int .i64 0, .int .i64 0, .int .i64 0] from rfl]
    clear HN3 j1
    go_wp2_with fail
    generalize hw5 : World.alloc w4 _ = w5
    have j2 : Below w4.heap.size w4 w5 := by rw [← hw5]; exact (Below.refl _ w4).alloc (Nat.le_refl _) _
    have HN5 := Lib.hid (HN4.out.step j2)
    clear HN4 j2 hw5
    refine (Free_none HN5.out.n 0 1).mono ?_; rintro e w6 ⟨rfl, j1⟩
    have HN6 := Lib.hid (HN5.out.step j1)
    clear HN5 j1
    go_wp2_with fail
    refine (Next_none HN6.out.n 0 1).mono ?_; rintro e w7 ⟨rfl, j1⟩
    have HN7 := Lib.hid (HN6.out.step j1)
    clear HN6 j1
    go_wp2_with fail
    refine (num_calls _ _).mono ?_; rintro e _ ⟨rfl, rfl⟩
    go_wp2_with fail
    refine (num_calls _ _).mono ?_; rintro e _ ⟨rfl, rfl⟩
    go_wp2_with fail
    refine (num_calls _ _).mono ?_; rintro e _ ⟨rfl, rfl⟩
    go_wp2_with fail
    refine (Map_none HN7.out.n 0 ⟨0, 0, 0⟩).mono ?_; rintro e w8 ⟨rfl, j1⟩
    have HN8 := Lib.hid (HN7.out.step j1)
    clear HN7 j1
    go_wp2_with fail
    refine (num_calls _ _).mono ?_; rintro e _ ⟨rfl, rfl⟩
    go_wp2_with fail
    refine (Len_none HN8.out.n).mono ?_; rintro e w9 ⟨rfl, j1⟩
    have HN9 := Lib.hid (HN8.out.step j1)
    clear HN8 j1
    go_wp2_with fail
    refine (all_ok (D := []) (.inl ⟨HN9.out.n, rfl⟩) Good.nil (by decide) 1 9 (by decide) (by decide)).mono ?_; rintro e w10 ⟨va, rfl, o2, j1⟩
    have HN10 := Lib.hid (HN9.out.step j1)
    obtain ⟨aa, ac, rfl, _⟩ := (RowAt.of_owns o2 (Nat.le_refl _)).len
    rw [show (ofR [] 1).length = 0 from rfl]
    clear HN9 j1 o2
    go_wp2_with fail
    refine (Copy_none HN10.out.n).mono ?_; rintro e w11 ⟨rfl, j1⟩
    have HN11 := Lib.hid (HN10.out.step j1)
    clear HN10 j1
    go_wp2_with fail
    refine (Same_nn HN11.out.n (.inl rfl)).mono ?_; rintro e w12 ⟨rfl, j1⟩
    have HN12 := Lib.hid (HN11.out.step j1)
    clear HN11 j1
    go_wp2_with fail
    go_ret
    exact ⟨rfl, HN12.out.k⟩
end Go.Proofs.Ytchepkihlnpfeaa
