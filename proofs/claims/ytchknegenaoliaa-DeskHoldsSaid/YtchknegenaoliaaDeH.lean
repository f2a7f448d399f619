/-
  Package desk: Unbind. No condition.
-/
import Derived.Test.YtchknegenaoliaaDeG
namespace Go.Proofs.Ytchknegenaoliaa
open Go.RowKit
attribute [local go_sem] Oper.semAt_some
set_option maxHeartbeats 500000
set_option maxRecDepth 4000

def unbAsks (b p : Nat) (t : Int) : List Ask := [liveAsk b, withinAsk p (p + 1) t 3]
theorem unbAsks_eq (b p : Nat) (t : Int) : firstErr (unbAsks b p t) = unbE t := by
  unfold unbAsks liveAsk withinAsk unbE
  simp only [firstErr]
  cases badN t 3 <;> simp
theorem unb_answers {W : World} {b m p : Nat} {P : List Ten} {T : Thr} {t : Int} (hD : DkAt W b m P T) (h : NumB W p (p + 1) t 3) : Answers W (unbAsks b p t) := by
  constructor
  · intro i hi args W
    match i, hi with
    | 0, _ => exact live_enter args W
    | 1, _ => exact within_enter args W
  · intro i hi X hel kx
    match i, hi with
    | 0, _ => exact none_live (hD.step kx)
    | 1, _ => exact within1_calls t 3 _ _ X ((h.step kx).n.cell 0 rfl) ((h.step kx).m.cell 0 rfl)
theorem DkAt.mapTo {W W' : World} {b m : Nat} {P : List Ten} {T T' : Thr} (h : DkAt W b m P T) (k : Turn m W W') (hm : MapP encH W' m T') : DkAt W' b m P T' := ⟨h.blk.turn k h.ne, hm, h.len⟩
theorem Unbind_ok {w : World} {b m : Nat} {P : List Ten} {T : Thr} (hD : DkAt w b m P T) (t : Int) :
    Calls Try.prog 12 #[.pointer (some ⟨b, 0, none⟩), .int .i64 t] w fun e w' => e = .returned (.tuple #[encH (unbH T t), .int .i64 (unbE t)]) ∧ DkAt w' b m P (unbT T t) ∧ Chg m w w' := by
  obtain ⟨w0, hw0⟩ : ∃ w0, w.alloc (.cells #[.int .i64 0, .int .i64 0] 28) = w0 := ⟨_, rfl⟩
  have hR : Blk w0 w.heap.size #[.int .i64 0, .int .i64 0] 28 := by rw [← hw0]; exact Blk.new w _ _
  have k0 : Below w.heap.size w w0 := by rw [← hw0]; exact (Below.refl _ w).alloc (Nat.le_refl _) _
  have h0 := hD.step k0
  have z0 := k0.size
  go_enter Try.func12, Try.ntmps12
  go_wp2_with fail
  clear hw0
  refine (is_calls _ _).mono ?_; rintro e w1 ⟨rfl, h1⟩
  go_wp2_with fail
  refine (within_calls t 3 w1).mono ?_; rintro e w2 ⟨rfl, q1, q2, h2⟩
  have k2 := h1.trans (h2.mono h1.size)
  have z2 := k2.size
  have hQ : NumB w2 w1.heap.size (w1.heap.size + 1) t 3 := ⟨q1, q2⟩
  clear h1 h2 q1 q2
  go_wp2_with fail
  obtain ⟨w3, hw3⟩ : ∃ w3, w2.alloc (.cells (askList (unbAsks b w1.heap.size t)).toArray 76) = w3 := ⟨_, rfl⟩
  have k3 : Below w0.heap.size w0 w3 := by rw [← hw3]; exact k2.alloc z2 _
  have j3 : Below w2.heap.size w2 w3 := by rw [← hw3]; exact (Below.refl _ w2).alloc (Nat.le_refl _) _
  have hrow : AskRow w3 w2.heap.size (unbAsks b w1.heap.size t) := by rw [← hw3]; exact askRow_of (Blk.new w2 _ _)
  have hans : Answers w3 (unbAsks b w1.heap.size t) := unb_answers (h0.step k3) (hQ.step j3)
  have e3 : w2.alloc (.cells #[.func (.func 34) #[.pointer (some ⟨b, 0, none⟩)] #[], .int .i64 1, .func (.func 47) #[] #[.pointer (some ⟨w1.heap.size, 0, none⟩), .pointer (some ⟨w1.heap.size + 1, 0, none⟩)], .int .i64 2] 76) = w3 := hw3
  rw [e3]
  clear e3 hw3 hQ j3
  refine (asked_ok w3 w2.heap.size 2 2 _ rfl (by simp [unbAsks]) (Lib.hid hrow) (Lib.hid hans)).mono ?_; rintro e w5 ⟨rfl, h5⟩
  rw [unbAsks_eq]
  have k5 := k3.trans (h5.mono k3.size)
  have hT5 := h0.step k5
  have hR5 := hR.below k5 hR.lt
  have hch : Chg m w w5 := .of_below (k0.trans (k5.mono z0))
  have hml := hD.mp.lt
  have hbl := hD.blk.lt
  clear hrow hans k3 h5 k2 z2
  obtain ⟨q, hq⟩ : ∃ q, unbE t = q := ⟨_, rfl⟩
  have HQ := Lib.hid hq
  rw [hq]
  clear hq
  have c0 := hT5.cellm
  have r0 : w5.cell? ⟨w.heap.size, 0, none⟩ = some (.int .i64 0) := hR5.cell 0 rfl
  have r1 : w5.cell? ⟨w.heap.size, 1, none⟩ = some (.int .i64 0) := hR5.cell 1 rfl
  have f0 := hR5.frozen 0
  have f1 := hR5.frozen 1
  by_cases h9 : q = 0
  · subst h9
    have hlk := (hT5.look t).1
    obtain ⟨x, hx⟩ : ∃ x, getH T t = x := ⟨_, rfl⟩
    rw [hx] at hlk
    have hA : unbT T t = delR T t := by unfold unbT; rw [if_pos HQ.out]
    have hB : unbH T t = x := by unfold unbH; rw [if_pos HQ.out, hx]
    have HA := Lib.hid hA
    have HB := Lib.hid hB
    clear hx hA hB
    obtain ⟨w6, hw6⟩ : ∃ w6, w5.alloc (.cells #[.int .i64 x.s, .int .i64 x.g] 28) = w6 := ⟨_, rfl⟩
    have k6 : Below w5.heap.size w5 w6 := by rw [← hw6]; exact (Below.refl _ w5).alloc (Nat.le_refl _) _
    have hX6 : Blk w6 w5.heap.size #[.int .i64 x.s, .int .i64 x.g] 28 := by rw [← hw6]; exact Blk.new w5 _ _
    have hT6 := hT5.step k6
    have hR6 := hR5.below k6 hR5.lt
    have hch6 := hch.trans (.of_below k6)
    have c6 := hT6.cellm
    obtain ⟨w7, hrun, hM7, hTn⟩ := hT6.mp.drop (P := Try.prog) Try.underlying67 Try.underlying3 t 3 0
    have hT7 := hT6.mapTo hTn hM7
    have hne1 : m ≠ w.heap.size := by omega
    have hne2 : b ≠ w.heap.size := by omega
    have hX7 : Blk w7 w5.heap.size #[.int .i64 x.s, .int .i64 x.g] 28 := hX6.turn hTn (by have := hT5.mp.lt; omega)
    have hR7 := hR6.turn hTn (Ne.symm hne1)
    have hch7 := hch6.trans (Chg.of_turn hTn)
    have x0 : w7.cell? ⟨w5.heap.size, 0, none⟩ = some (.int .i64 x.s) := hX7.cell 0 rfl
    have x1 : w7.cell? ⟨w5.heap.size, 1, none⟩ = some (.int .i64 x.g) := hX7.cell 1 rfl
    have s0 : w7.cell? ⟨w.heap.size, 0, none⟩ = some (.int .i64 0) := hR7.cell 0 rfl
    have s1 : w7.cell? ⟨w.heap.size, 1, none⟩ = some (.int .i64 0) := hR7.cell 1 rfl
    have g0 := hR7.frozen 0
    have g1 := hR7.frozen 1
    go_wp2_with fail
    exact ret_h2 rfl w.heap.size rfl (hR7.set2 _ _) rfl rfl ⟨by rw [HB.out, HQ.out]; rfl, by rw [HA.out]; exact hT7.set2 _ _ hne2 hne1, hch7.set2 _ _ _ (Nat.le_refl _)⟩
  · have hA : unbT T t = T := by unfold unbT; rw [if_neg (by rw [HQ.out]; exact h9)]
    have hB : unbH T t = ⟨0, 0⟩ := by unfold unbH; rw [if_neg (by rw [HQ.out]; exact h9)]
    have HA := Lib.hid hA
    have HB := Lib.hid hB
    clear hA hB
    go_wp2_with fail
    exact ret_h2 rfl w.heap.size rfl (hR5.set2 _ _) rfl rfl ⟨by rw [HB.out, HQ.out]; rfl, by rw [HA.out]; exact hT5.set2 _ _ (by omega) (by omega), hch.set2 _ _ _ (Nat.le_refl _)⟩
end Go.Proofs.Ytchknegenaoliaa
