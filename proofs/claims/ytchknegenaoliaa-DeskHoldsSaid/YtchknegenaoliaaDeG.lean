/-
  Package desk: Of. No condition.
-/
import Derived.Test.YtchknegenaoliaaDeF
namespace Go.Proofs.Ytchknegenaoliaa
open Go.RowKit
attribute [local go_sem] Oper.semAt_some
set_option maxHeartbeats 500000
set_option maxRecDepth 4000

theorem zero_hnd (w : World) : (zeroValue 28).run Try.prog w = .ok (encH ⟨0, 0⟩) w := by kernel_rfl
theorem look_hnd (T : Thr) (t : Int) : ((getR T t).map encH).getD (encH ⟨0, 0⟩) = .agg #[.int .i64 (getH T t).s, .int .i64 (getH T t).g] := by
  unfold getH
  cases getR T t <;> rfl
theorem DkAt.look {w : World} {b m : Nat} {P : List Ten} {T : Thr} (h : DkAt w b m P T) (t : Int) : (Instr.lookup 67 (.map (some m)) (.int .i64 t) false).run Try.prog w = .ok (.agg #[.int .i64 (getH T t).s, .int .i64 (getH T t).g]) w ∧
    (Instr.lookup 67 (.map (some m)) (.int .i64 t) true).run Try.prog w = .ok (.tuple #[.agg #[.int .i64 (getH T t).s, .int .i64 (getH T t).g], .bool (hasR T t)]) w := by
  have := h.mp.lookup (P := Try.prog) Try.underlying67 Try.underlying3 (zero_hnd w) t
  rw [look_hnd] at this
  exact this
theorem Of_ok {w : World} {b m : Nat} {P : List Ten} {T : Thr} (hD : DkAt w b m P T) (t : Int) :
    Calls Try.prog 16 #[.pointer (some ⟨b, 0, none⟩), .int .i64 t] w fun e w' => e = .returned (.tuple #[encH (getH T t), .bool (hasR T t)]) ∧ Below w.heap.size w w' := by
  obtain ⟨w0, hw0⟩ : ∃ w0, w.alloc (.cells #[.int .i64 0, .int .i64 0] 28) = w0 := ⟨_, rfl⟩
  have hR : Blk w0 w.heap.size #[.int .i64 0, .int .i64 0] 28 := by rw [← hw0]; exact Blk.new w _ _
  have k0 : Below w.heap.size w w0 := by rw [← hw0]; exact (Below.refl _ w).alloc (Nat.le_refl _) _
  have h0 := hD.step k0
  have z0 := k0.size
  go_enter Try.func16, Try.ntmps16
  go_wp2_with fail
  clear hw0
  refine (none_live h0).mono ?_; rintro e w1 ⟨rfl, h1⟩
  have hT1 := h0.step h1
  have hR1 := hR.below h1 hR.lt
  have kk := k0.trans (h1.mono z0)
  have c0 := hT1.cellm
  have hlk := (hT1.look t).2
  obtain ⟨y, hy⟩ : ∃ y, getH T t = y := ⟨_, rfl⟩
  have HY := Lib.hid hy
  rw [hy] at hlk
  clear hy
  obtain ⟨w2, hw2⟩ : ∃ w2, w1.alloc (.cells #[.int .i64 y.s, .int .i64 y.g] 28) = w2 := ⟨_, rfl⟩
  have k2 : Below w1.heap.size w1 w2 := by rw [← hw2]; exact (Below.refl _ w1).alloc (Nat.le_refl _) _
  have hX2 : Blk w2 w1.heap.size #[.int .i64 y.s, .int .i64 y.g] 28 := by rw [← hw2]; exact Blk.new w1 _ _
  have hR2 := hR1.below k2 hR1.lt
  have kk2 := kk.trans (k2.mono kk.size)
  have x0 : w2.cell? ⟨w1.heap.size, 0, none⟩ = some (.int .i64 y.s) := hX2.cell 0 rfl
  have x1 : w2.cell? ⟨w1.heap.size, 1, none⟩ = some (.int .i64 y.g) := hX2.cell 1 rfl
  have r0 : w2.cell? ⟨w.heap.size, 0, none⟩ = some (.int .i64 0) := hR2.cell 0 rfl
  have r1 : w2.cell? ⟨w.heap.size, 1, none⟩ = some (.int .i64 0) := hR2.cell 1 rfl
  have f0 := hR2.frozen 0
  have f1 := hR2.frozen 1
  go_wp2_with fail
  exact ret_h2 rfl w.heap.size rfl (hR2.set2 _ _) rfl rfl ⟨by rw [HY.out]; rfl, (kk2.setCell (p := ⟨w.heap.size, 0, none⟩) (Nat.le_refl _) _).setCell (p := ⟨w.heap.size, 1, none⟩) (Nat.le_refl _) _⟩
end Go.Proofs.Ytchknegenaoliaa
