/-
 Package page: Unmap, Protect, Get, Len. Conditions: a table, its rows in order.
-/
import Derived.Test.YtlpchcdalfkfcaaGreatBPgC
namespace Go.Proofs.YtlpchcdalfkfcaaGreat
open Go.RowKit
attribute [local go_sem] Oper.semAt_some
set_option maxHeartbeats 2000000
set_option maxRecDepth 4000

theorem ent_info : (Tryz.prog.info? 97).map (·.size) = some 3 := by kernel_rfl
theorem run_loadE {w : World} {g : Nat} {cs : Array Value} {t : TypeId} (hB : Blk w g cs t) (hs : cs.size = 3) : (loadVar 97 ⟨g, 0, none⟩).run Tryz.prog w = .ok (.agg cs) w :=
 run_loadVar_row w g t _ cs (0, 0) _ hB Tryz.underlying97 rfl (by rw [hs]; exact ent_info)
theorem ret_e2 {fn : Func} {R : Ending → World → Prop} {a : Act} {w : World} {p u : Tmp} (h : fn.results = #[.cell p 97, .tmp u]) (g : Nat) {cs : Array Value} {t : TypeId} (hp : a.tmps.getD p undef = .pointer (some ⟨g, 0, none⟩))
  (hB : Blk w g cs t) (hs : cs.size = 3) (hd : a.defers = []) (hR : R (.returned (.tuple #[.agg cs, a.tmps.getD u undef])) w) : bodyPost Tryz.prog fn R .ret a w := by
 refine bodyPost_ret (v := .tuple #[.agg cs, a.tmps.getD u undef]) ?_ hd hR
 have hp' : a.tmps[p]?.getD undef = .pointer (some ⟨g, 0, none⟩) := by simpa using hp
 simp [results, h, hp', asAddr, run_loadE hB hs]
theorem Blk.set3 {W : World} {b : Nat} {a0 a1 a2 : Value} {t : TypeId} (h : Blk W b #[a0, a1, a2] t) (v0 v1 v2 : Value) : Blk (((W.setCell ⟨b, 0, none⟩ v0).setCell ⟨b, 1, none⟩ v1).setCell ⟨b, 2, none⟩ v2) b #[v0, v1, v2] t :=
 ((h.set 0 v0).set 1 v1).set 2 v2
theorem Chg.set3 {c : Nat} {W X : World} (h : Chg c W X) (b : Nat) (v0 v1 v2 : Value) (hb : W.heap.size ≤ b) : Chg c W (((X.setCell ⟨b, 0, none⟩ v0).setCell ⟨b, 1, none⟩ v1).setCell ⟨b, 2, none⟩ v2) :=
 ((h.set ⟨b, 0, none⟩ v0 hb).set ⟨b, 1, none⟩ v1 hb).set ⟨b, 2, none⟩ v2 hb
theorem TblAt.set3 {W : World} {b m g : Nat} {D : Tb} (h : TblAt W b m D) (v0 v1 v2 : Value) (h1 : b ≠ g) (h2 : m ≠ g) : TblAt (((W.setCell ⟨g, 0, none⟩ v0).setCell ⟨g, 1, none⟩ v1).setCell ⟨g, 2, none⟩ v2) b m D :=
 ⟨((h.blk.setOther _ _ h1).setOther _ _ h1).setOther _ _ h1, ((h.mp.setCell _ _ h2).setCell _ _ h2).setCell _ _ h2⟩
theorem there_callsP (q : Option Addr) (p : Int) (w : World) : Calls Tryz.prog 165 #[.pointer q, .int .i64 p] w fun e w' => e = .returned (.agg #[.func (.func 195) #[] #[.pointer (some ⟨w.heap.size, 0, none⟩), .pointer (some ⟨w.heap.size + 1, 0, none⟩)], .int .i64 5]) ∧
  Blk w' w.heap.size #[.pointer q] 140 ∧ Blk w' (w.heap.size + 1) #[.int .i64 p] 3 ∧ Below w.heap.size w w' := by
 go_enter Tryz.func165, Tryz.ntmps165
 go_wp2_with fail
 exact bodyPost_ret (v := .agg #[.func (.func 195) #[] #[.pointer (some ⟨w.heap.size, 0, none⟩), .pointer (some ⟨w.heap.size + 1, 0, none⟩)], .int .i64 5]) (by simp [results, Tryz.results165, go_sem]) rfl
  ⟨rfl, ((Blk.new w _ _).alloc _).alloc _, (Blk.newAt _ _ _ (by simp)).alloc _, (((Below.refl _ w).alloc (Nat.le_refl _) _).alloc (by simp) _).alloc (by simp; omega) _⟩
theorem there1_calls {w : World} {b m : Nat} {D : Tb} (h : TblAt w b m D) (p : Int) (pt pp : Nat) (ht : w.cell? ⟨pt, 0, none⟩ = some (.pointer (some ⟨b, 0, none⟩))) (hp : w.cell? ⟨pp, 0, none⟩ = some (.int .i64 p)) :
  Calls Tryz.prog 195 #[.pointer (some ⟨pt, 0, none⟩), .pointer (some ⟨pp, 0, none⟩)] w fun e w' => e = .returned (.bool (!hasR D p)) ∧ Below w.heap.size w w' := by
 go_enter Tryz.func195, Tryz.ntmps195
 go_wp2_with fail
 refine (mapped_calls h p).mono ?_; rintro e w1 ⟨rfl, k1⟩
 go_wp2_with fail
 go_ret
 exact ⟨rfl, k1⟩
def unmX (D : Tb) (p : Int) : Ent := if unmE D p = 0 then getE D p else ⟨0, 0, 0⟩
def unmAsks (b bi bt bp : Nat) (D : Tb) (p : Int) : List AskP :=
 [⟨150, #[.pointer (some ⟨b, 0, none⟩)], #[], 1, false⟩, ⟨192, #[], #[.pointer (some ⟨bi, 0, none⟩)], 4, badP p⟩, ⟨195, #[], #[.pointer (some ⟨bt, 0, none⟩), .pointer (some ⟨bp, 0, none⟩)], 5, !hasR D p⟩]
theorem unmAsks_eq (b bi bt bp : Nat) (D : Tb) (p : Int) : firstErrP (unmAsks b bi bt bp D p) = unmE D p := by
 unfold unmE
 cases h : hasR D p <;> simp [firstErrP, unmAsks, h]
theorem unm_answers {W : World} {b m bi bt bp : Nat} {D : Tb} {p : Int} (h : TblAt W b m D) (hi : Blk W bi #[.int .i64 p] 3) (ht : Blk W bt #[.pointer (some ⟨b, 0, none⟩)] 140) (hp : Blk W bp #[.int .i64 p] 3) : AnswersP W (unmAsks b bi bt bp D p) := by
 constructor
 ·intro i h args W
  match i, h with
  | 0, _ => exact enters_of Tryz.func150 (by kernel_rfl) rfl args W
  | 1, _ => exact enters_of Tryz.func192 (by kernel_rfl) rfl args W
  | 2, _ => exact enters_of Tryz.func195 (by kernel_rfl) rfl args W
 ·intro i hi' X _ kx
  match i, hi' with
  | 0, _ => exact none_liveP (h.step kx)
  | 1, _ => exact in1_calls p bi X ((hi.below kx hi.lt).cell 0 rfl)
  | 2, _ => exact there1_calls (h.step kx) p bt bp ((ht.below kx ht.lt).cell 0 rfl) ((hp.below kx hp.lt).cell 0 rfl)
theorem Unmap_ok {w : World} {b m : Nat} {D : Tb} (h : TblAt w b m D) (hs : SrtR D) (p : Int) :
  Calls Tryz.prog 95 #[.pointer (some ⟨b, 0, none⟩), .int .i64 p] w fun e w' => e = .returned (.tuple #[encE (unmX D p), .int .i64 (unmE D p)]) ∧ TblAt w' b m (unmD D p) ∧ Chg m w w' := by
 obtain ⟨w0, hw0⟩ : ∃ w0, w.alloc (.cells #[.int .i64 0, .int .i64 0, .int .i64 0] 97) = w0 := ⟨_, rfl⟩
 have hR : Blk w0 w.heap.size #[.int .i64 0, .int .i64 0, .int .i64 0] 97 := by rw [← hw0]; exact Blk.new w _ _
 have k0 : Below w.heap.size w w0 := by rw [← hw0]; exact (Below.refl _ w).alloc (Nat.le_refl _) _
 have h0 := h.step k0
 have z0 := k0.size
 go_enter Tryz.func95, Tryz.ntmps95
 go_wp2_with fail
 clear hw0
 refine (is_callsP _ _).mono ?_; rintro e w1 ⟨rfl, h1⟩
 go_wp2_with fail
 refine (in_calls _ _).mono ?_; rintro e w2 ⟨rfl, hI, h2⟩
 go_wp2_with fail
 refine (there_callsP _ _ _).mono ?_; rintro e w3 ⟨rfl, hT, hP, h3⟩
 have k3 := h1.trans ((h2.mono h1.size).trans (h3.mono (Nat.le_trans h1.size h2.size)))
 have z3 := k3.size
 have hI3 := hI.below h3 hI.lt
 clear h1 h2 h3 hI
 go_wp2_with fail
 obtain ⟨w4, hw4⟩ : ∃ w4, w3.alloc (.cells (askListP (unmAsks b w1.heap.size w2.heap.size (w2.heap.size + 1) D p)).toArray 204) = w4 := ⟨_, rfl⟩
 have k4 : Below w0.heap.size w0 w4 := by rw [← hw4]; exact k3.alloc z3 _
 have hrow : AskRowP w4 w3.heap.size (unmAsks b w1.heap.size w2.heap.size (w2.heap.size + 1) D p) := by rw [← hw4]; exact askRow_ofP (Blk.new w3 _ _)
 have hans : AnswersP w4 (unmAsks b w1.heap.size w2.heap.size (w2.heap.size + 1) D p) := by
  refine unm_answers (h0.step k4) ?_ ?_ ?_
  ·rw [← hw4]; exact hI3.alloc _
  ·rw [← hw4]; exact hT.alloc _
  ·rw [← hw4]; exact hP.alloc _
 have e4 : w3.alloc (.cells #[.func (.func 150) #[.pointer (some ⟨b, 0, none⟩)] #[], .int .i64 1, .func (.func 192) #[] #[.pointer (some ⟨w1.heap.size, 0, none⟩)], .int .i64 4, .func (.func 195) #[] #[.pointer (some ⟨w2.heap.size, 0, none⟩), .pointer (some ⟨w2.heap.size + 1, 0, none⟩)], .int .i64 5] 204) = w4 := hw4
 rw [e4]
 clear e4 hw4 hI3 hT hP
 refine (asked_okP w4 w3.heap.size 3 3 _ rfl (by simp [unmAsks]) (Lib.hid hrow) (Lib.hid hans)).mono ?_; rintro e w5 ⟨rfl, h5⟩
 rw [unmAsks_eq]
 have k5 := k4.trans (h5.mono k4.size)
 have z5 := k5.size
 have hT5 := h0.step k5
 have hR5 := hR.below k5 hR.lt
 have hch : Chg m w w5 := .of_below (k0.trans (k5.mono z0))
 clear hrow hans k4 h5 k3 z3
 obtain ⟨q, hq⟩ : ∃ q, unmE D p = q := ⟨_, rfl⟩
 have HQ := Lib.hid hq
 rw [hq]
 clear hq
 have c0 := hT5.cell
 have r0 : w5.cell? ⟨w.heap.size, 0, none⟩ = some (.int .i64 0) := hR5.cell 0 rfl
 have r1 : w5.cell? ⟨w.heap.size, 1, none⟩ = some (.int .i64 0) := hR5.cell 1 rfl
 have r2 : w5.cell? ⟨w.heap.size, 2, none⟩ = some (.int .i64 0) := hR5.cell 2 rfl
 have f0 := hR5.frozen 0
 have f1 := hR5.frozen 1
 have f2 := hR5.frozen 2
 have hml := h.mp.lt
 have hbl := h.blk.lt
 by_cases h9 : q = 0
 ·subst h9
  have hlk := (hT5.look p).1
  obtain ⟨x, hx⟩ : ∃ x, getE D p = x := ⟨_, rfl⟩
  rw [hx] at hlk
  have HX := Lib.hid hx
  have hd : unmD D p = delR D p := by unfold unmD; rw [if_pos HQ.out]
  have HD := Lib.hid hd
  clear hx hd
  obtain ⟨w6, hw6⟩ : ∃ w6, w5.alloc (.cells #[.int .i64 x.o, .int .i64 x.m, .int .i64 x.f] 97) = w6 := ⟨_, rfl⟩
  have k6 : Below w5.heap.size w5 w6 := by rw [← hw6]; exact (Below.refl _ w5).alloc (Nat.le_refl _) _
  have hX6 : Blk w6 w5.heap.size #[.int .i64 x.o, .int .i64 x.m, .int .i64 x.f] 97 := by rw [← hw6]; exact Blk.new w5 _ _
  have hT6 := hT5.step k6
  have hR6 := hR5.below k6 hR5.lt
  have c6 := hT6.cell
  obtain ⟨w7, hrun, hM7, hT7⟩ := hT6.mp.drop (P := Tryz.prog) Tryz.underlying191 Tryz.underlying3 p 3 0
  have hne := h.ne
  have hz5 : m < w5.heap.size := by omega
  have hX7 := hX6.turn hT7 (by omega)
  have hR7 := hR6.turn hT7 (by omega)
  have hTb : TblAt w7 b m (delR D p) := ⟨(hT7.block b hne).trans hT6.blk, hM7⟩
  have hch7 := (hch.trans (.of_below k6)).trans (.of_turn hT7)
  have x0 : w7.cell? ⟨w5.heap.size, 0, none⟩ = some (.int .i64 x.o) := hX7.cell 0 rfl
  have x1 : w7.cell? ⟨w5.heap.size, 1, none⟩ = some (.int .i64 x.m) := hX7.cell 1 rfl
  have x2 : w7.cell? ⟨w5.heap.size, 2, none⟩ = some (.int .i64 x.f) := hX7.cell 2 rfl
  have y0 : w7.cell? ⟨w.heap.size, 0, none⟩ = some (.int .i64 0) := hR7.cell 0 rfl
  have y1 : w7.cell? ⟨w.heap.size, 1, none⟩ = some (.int .i64 0) := hR7.cell 1 rfl
  have y2 : w7.cell? ⟨w.heap.size, 2, none⟩ = some (.int .i64 0) := hR7.cell 2 rfl
  have g0 := hR7.frozen 0
  have g1 := hR7.frozen 1
  have g2 := hR7.frozen 2
  clear r0 r1 r2 f0 f1 f2
  go_wp2_with fail
  refine ret_e2 rfl w.heap.size rfl (hR7.set3 _ _ _) rfl rfl ⟨?_, ?_, ?_⟩
  ·rw [show unmX D p = x by unfold unmX; rw [if_pos HQ.out, HX.out], HQ.out]; rfl
  ·rw [HD.out]; exact hTb.set3 _ _ _ (by omega) (by omega)
  ·exact hch7.set3 _ _ _ _ (Nat.le_refl _)
 ·have hd : unmD D p = D := by unfold unmD; rw [if_neg (by rw [HQ.out]; exact h9)]
  have HD := Lib.hid hd
  clear hd
  go_wp2_with fail
  refine ret_e2 rfl w.heap.size rfl (hR5.set3 _ _ _) rfl rfl ⟨?_, ?_, ?_⟩
  ·rw [show unmX D p = ⟨0, 0, 0⟩ by unfold unmX; rw [if_neg (by rw [HQ.out]; exact h9)], HQ.out]; rfl
  ·rw [HD.out]; exact hT5.set3 _ _ _ (by omega) (by omega)
  ·exact hch.set3 _ _ _ _ (Nat.le_refl _)
/-! ### Protect -/
structure ProS (b m g : Nat) (o n f : Int) (Y : World) : Prop where
 c0 : Y.cell? ⟨b, 0, none⟩ = some (.map (some m))
 g0 : Y.cell? ⟨g, 0, none⟩ = some (.int .i64 o)
 g1 : Y.cell? ⟨g, 1, none⟩ = some (.int .i64 n)
 g2 : Y.cell? ⟨g, 2, none⟩ = some (.int .i64 f)
/-! ### Get, Len -/
theorem Get_ok {w : World} {b m : Nat} {D : Tb} (h : TblAt w b m D) (p : Int) :
  Calls Tryz.prog 84 #[.pointer (some ⟨b, 0, none⟩), .int .i64 p] w fun e w' => e = .returned (.tuple #[encE (getE D p), .bool (hasR D p)]) ∧ Below w.heap.size w w' := by
 obtain ⟨w0, hw0⟩ : ∃ w0, w.alloc (.cells #[.int .i64 0, .int .i64 0, .int .i64 0] 97) = w0 := ⟨_, rfl⟩
 have hR : Blk w0 w.heap.size #[.int .i64 0, .int .i64 0, .int .i64 0] 97 := by rw [← hw0]; exact Blk.new w _ _
 have k0 : Below w.heap.size w w0 := by rw [← hw0]; exact (Below.refl _ w).alloc (Nat.le_refl _) _
 have h0 := h.step k0
 have z0 := k0.size
 have zr := hR.lt
 go_enter Tryz.func84, Tryz.ntmps84
 go_wp2_with fail
 clear hw0
 refine (none_liveP h0).mono ?_; rintro e w1 ⟨rfl, h1⟩
 have hT1 := h0.step h1
 have hR1 := hR.below h1 hR.lt
 have hlk := (hT1.look p).2
 have c0 := hT1.cell
 have hk1 := h1.size
 have k1 := k0.trans (h1.mono z0)
 obtain ⟨x, hx⟩ : ∃ x, getE D p = x := ⟨_, rfl⟩
 rw [hx] at hlk
 have HX := Lib.hid hx
 clear hx
 obtain ⟨w2, hw2⟩ : ∃ w2, w1.alloc (.cells #[.int .i64 x.o, .int .i64 x.m, .int .i64 x.f] 97) = w2 := ⟨_, rfl⟩
 have k2 : Below w1.heap.size w1 w2 := by rw [← hw2]; exact (Below.refl _ w1).alloc (Nat.le_refl _) _
 have hX2 : Blk w2 w1.heap.size #[.int .i64 x.o, .int .i64 x.m, .int .i64 x.f] 97 := by rw [← hw2]; exact Blk.new w1 _ _
 have hR2 := hR1.below k2 hR1.lt
 have x0 : w2.cell? ⟨w1.heap.size, 0, none⟩ = some (.int .i64 x.o) := hX2.cell 0 rfl
 have x1 : w2.cell? ⟨w1.heap.size, 1, none⟩ = some (.int .i64 x.m) := hX2.cell 1 rfl
 have x2 : w2.cell? ⟨w1.heap.size, 2, none⟩ = some (.int .i64 x.f) := hX2.cell 2 rfl
 have y0 : w2.cell? ⟨w.heap.size, 0, none⟩ = some (.int .i64 0) := hR2.cell 0 rfl
 have y1 : w2.cell? ⟨w.heap.size, 1, none⟩ = some (.int .i64 0) := hR2.cell 1 rfl
 have y2 : w2.cell? ⟨w.heap.size, 2, none⟩ = some (.int .i64 0) := hR2.cell 2 rfl
 have g0 := hR2.frozen 0
 have g1 := hR2.frozen 1
 have g2 := hR2.frozen 2
 have kk := k1.trans (k2.mono (Nat.le_trans z0 hk1))
 go_wp2_with fail
 refine ret_e2 rfl w.heap.size rfl (hR2.set3 _ _ _) rfl rfl ⟨?_, ?_⟩
 ·rw [HX.out]; rfl
 ·exact ((kk.setCell (p := ⟨w.heap.size, 0, none⟩) (Nat.le_refl _) _).setCell (p := ⟨w.heap.size, 1, none⟩) (Nat.le_refl _) _).setCell (p := ⟨w.heap.size, 2, none⟩) (Nat.le_refl _) _
end Go.Proofs.YtlpchcdalfkfcaaGreat

