/-
  Package cache: Has, Put. Conditions: rows of fewer than a million.
-/
import Derived.Test.YtkilmppmghkigaaCaG
namespace Go.Proofs.Ytkilmppmghkigaa
open Go.RowKit
attribute [local go_sem] Oper.semAt_some
set_option maxHeartbeats 4000000
set_option maxRecDepth 4000

theorem slice_all (s : Nat) (W : World) : (Instr.sliceAt 61 (.pointer (some ⟨s, 0, none⟩)) none none none).run Try.prog W = .ok (.slice (some ⟨s, 0, none⟩) 4 4) W := by
  have hal : Try.prog.arrayLen 61 = 4 := by kernel_rfl
  have hsz : (sizeOf (Try.prog.elem 61)).run Try.prog W = .ok 8 W := by kernel_rfl
  have := run_sliceAt_array_all (P := Try.prog) W 61 ⟨s, 0, none⟩ (by kernel_rfl)
  rw [this, hal, hsz]
  simp [slicedAt, Addr.add]
def hasR (L : Nat → List Int) (c x : Int) : Option Nat := if badIn c 8 = true then none else hasT L c.toNat x
theorem Has_ok {w : World} {s : Nat} {L : Nat → List Int} (hS : ShAt w s L) (hL : ∀ i, (L i).length < 1000000) (c x : Int) : Calls Try.prog 24 #[.pointer (some ⟨s, 0, none⟩), .int .i64 c, .int .i64 x] w fun e w' =>
    e = .returned (.tuple #[.int .i64 ((hasR L c x).getD 0), .bool (hasR L c x).isSome]) ∧ Below w.heap.size w w' := by
  obtain ⟨w0, hw0⟩ : ∃ w0, (w.alloc (.cells #[.int .i64 c] 3)).alloc (.cells #[.int .i64 x] 3) = w0 := ⟨_, rfl⟩
  have b0 : Blk w0 w.heap.size #[.int .i64 c] 3 := by rw [← hw0]; exact (Blk.new w _ _).alloc _
  have b1 : Blk w0 (w.heap.size + 1) #[.int .i64 x] 3 := by rw [← hw0]; exact Blk.newAt _ _ _ (by simp)
  have k0 : Below w.heap.size w w0 := by rw [← hw0]; exact ((Below.refl _ w).alloc (Nat.le_refl _) _).alloc (by simp) _
  have hS0 := hS.step k0
  have z0 := k0.size
  by_cases h1 : c < 0
  · have hr : hasR L c x = none := by simp [hasR, badIn, h1]
    rw [hr]
    have c0 : w0.cell? ⟨w.heap.size, 0, none⟩ = some (.int .i64 c) := b0.cell 0 rfl
    go_enter Try.func24, Try.ntmps24
    go_wp2_with fail
    clear hw0
    refine (none_live hS0).mono ?_; rintro e w1 ⟨rfl, k1⟩
    have c1 : w1.cell? ⟨w.heap.size, 0, none⟩ = some (.int .i64 c) := (b0.below k1 b0.lt).cell 0 rfl
    go_wp2_with fail
    go_ret2
    exact ⟨rfl, k0.trans (k1.mono z0)⟩
  · by_cases h2 : 8 ≤ c
    · have hr : hasR L c x = none := by simp [hasR, badIn, h2]
      rw [hr]
      go_enter Try.func24, Try.ntmps24
      go_wp2_with fail
      clear hw0
      refine (none_live hS0).mono ?_; rintro e w1 ⟨rfl, k1⟩
      have c1 : w1.cell? ⟨w.heap.size, 0, none⟩ = some (.int .i64 c) := (b0.below k1 b0.lt).cell 0 rfl
      go_wp2_with fail
      go_ret2
      exact ⟨rfl, k0.trans (k1.mono z0)⟩
    · have hr : hasR L c x = hasT L c.toNat x := by unfold hasR badIn; rw [if_neg (by simp; omega)]
      rw [hr]
      clear hr
      obtain ⟨n, rfl⟩ : ∃ n : Nat, c = n := ⟨c.toNat, by omega⟩
      rw [Int.toNat_natCast]
      obtain ⟨q, hq⟩ : ∃ q, hasT L n x = q := ⟨_, rfl⟩
      rw [hq]
      have HQ := Lib.hid hq
      clear hq
      go_enter Try.func24, Try.ntmps24
      go_wp2_with fail
      clear hw0
      refine (none_live hS0).mono ?_; rintro e w1 ⟨rfl, k1⟩
      have hS1 := hS0.step k1
      have z1 := k1.size
      have a0 := b0.below k1 b0.lt
      have a1 := b1.below k1 b1.lt
      have c1 : w1.cell? ⟨w.heap.size, 0, none⟩ = some (.int .i64 n) := a0.cell 0 rfl
      have hsl := slice_all s w1
      clear hS0 b0 b1
      go_wp2_with fail
      refine (all_calls _ _ _ _).mono ?_; rintro e w2' ⟨rfl, rfl⟩
      have jx := (Below.refl w1.heap.size w1).alloc (Nat.le_refl _) (.cells #[.slice (some ⟨s, 0, none⟩) 4 4] 93)
      have hp := Blk.new w1 #[.slice (some ⟨s, 0, none⟩) 4 4] 93
      have hS2 := hS1.step jx
      have a2 := a0.below jx a0.lt
      have a3 := a1.below jx a1.lt
      obtain ⟨A, C, hB, hrw⟩ := hS2.forms
      go_wp2_with fail
      refine (found_calls (A := A) (C := C) (L := L) (c := n) (x := x) hL hB hrw (by omega) (hp.cell 0 rfl) (a2.cell 0 rfl) (a3.cell 0 rfl)).mono ?_; rintro e w3 ⟨rfl, k3⟩
      rw [HQ.out]
      go_wp2_with fail
      go_ret2
      exact ⟨rfl, (k0.trans (k1.mono z0)).trans ((jx.trans (k3.mono jx.size)).mono (by omega))⟩
end Go.Proofs.Ytkilmppmghkigaa
