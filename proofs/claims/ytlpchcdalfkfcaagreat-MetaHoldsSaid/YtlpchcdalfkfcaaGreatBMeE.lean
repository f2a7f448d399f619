/-
 Package meta: a slot's address. No condition.
-/
import Derived.Test.YtlpchcdalfkfcaaGreatBWinG
import Derived.Test.YtlpchcdalfkfcaaGreatBVmQ
import Derived.Test.YtlpchcdalfkfcaaGreatBFrM
namespace Go.Proofs.YtlpchcdalfkfcaaGreat
open Go.RowKit
attribute [local go_sem] Oper.semAt_some
set_option maxHeartbeats 4000000
set_option maxRecDepth 8000

structure SpS (b : Nat) (s c i : Int) (Y : World) : Prop where
 h0 : Y.cell? ⟨b, 0, none⟩ = some (.int .i64 s)
 h1 : Y.cell? ⟨b, 1, none⟩ = some (.int .i64 c)
 h2 : Y.cell? ⟨b, 2, none⟩ = some (.int .i64 i)
theorem SpS.of {b : Nat} {s c i : Int} {Y : World} {t : TypeId} (h : Blk Y b #[.int .i64 s, .int .i64 c, .int .i64 i] t) : SpS b s c i Y := ⟨h.cell 0 rfl, h.cell 1 rfl, h.cell 2 rfl⟩
def atO (s c i : Int) : Int := if spE s c i = 0 then atIM s c i else 0
theorem mAt_ok (s c i : Int) (w : World) : Calls Tryz.prog 7 #[.agg #[.int .i64 s, .int .i64 c, .int .i64 i]] w fun e w' => e = .returned (.tuple #[.int .u32 (atO s c i), .int .i64 (spE s c i)]) ∧ Below w.heap.size w w' := by
 obtain ⟨w0, hw0⟩ : ∃ w0, w.alloc (.cells #[.int .i64 s, .int .i64 c, .int .i64 i] 23) = w0 := ⟨_, rfl⟩
 have hX : Blk w0 w.heap.size #[.int .i64 s, .int .i64 c, .int .i64 i] 23 := by rw [← hw0]; exact Blk.new w _ _
 have k : Below w.heap.size w w0 := by rw [← hw0]; exact (Below.refl _ w).alloc (Nat.le_refl _) _
 go_enter Tryz.func7, Tryz.ntmps7
 go_wp2_with fail
 clear hw0
 refine wp_onlyN ?_
 refine wp_region_held_drew (S := SpS w.heap.size s c i) (by kernel_rfl) (SpS.of hX) (fun hHeld => ?_)
 replace hX := hX.drew
 replace k := k.drew
 refine wpAnyH_take (i := 0) (v := ?_) rfl (by kernel_rfl) (by kernel_rfl) (by kernel_rfl) (fun _ _ _ h => h) (Or.inl ⟨by rfl, ?_⟩) (by assumption) ?_
 rotate_left
 ·(intro Y hSw; (try dsimp only at hSw); obtain ⟨hS0, hS1, hS2⟩ := hSw; go_simp; try with_reducible rfl)
 try simp only [Act.put, pu1, pu2, pu3, pu4, pu5, pu6]
 refine wpAnyH_take (i := 1) (v := ?_) rfl (by kernel_rfl) (by kernel_rfl) (by kernel_rfl) (fun _ _ _ h => h) (Or.inl ⟨by rfl, ?_⟩) (by assumption) ?_
 rotate_left
 ·(intro Y hSw; (try dsimp only at hSw); obtain ⟨hS0, hS1, hS2⟩ := hSw; go_simp; try with_reducible rfl)
 try simp only [Act.put, pu1, pu2, pu3, pu4, pu5, pu6]
 refine wpAnyH_take (i := 2) (v := ?_) rfl (by kernel_rfl) (by kernel_rfl) (by kernel_rfl) (fun _ _ _ h => h) (Or.inl ⟨by rfl, ?_⟩) (by assumption) ?_
 rotate_left
 ·(intro Y hSw; (try dsimp only at hSw); obtain ⟨hS0, hS1, hS2⟩ := hSw; go_simp; try with_reducible rfl)
 try simp only [Act.put, pu1, pu2, pu3, pu4, pu5, pu6]
 refine wpAnyH_take (i := 4) (v := ?_) rfl (by kernel_rfl) (by kernel_rfl) (by kernel_rfl) (fun _ _ _ h => h) (Or.inl ⟨by rfl, ?_⟩) (by assumption) ?_
 rotate_left
 ·(intro Y hSw; (try dsimp only at hSw); obtain ⟨hS0, hS1, hS2⟩ := hSw; go_simp; try with_reducible rfl)
 try simp only [Act.put, pu1, pu2, pu3, pu4, pu5, pu6]
 refine wpAnyH_take (i := 5) (v := ?_) rfl (by kernel_rfl) (by kernel_rfl) (by kernel_rfl) (fun _ _ _ h => h) (Or.inl ⟨by rfl, ?_⟩) (by assumption) ?_
 rotate_left
 ·(intro Y hSw; (try dsimp only at hSw); obtain ⟨hS0, hS1, hS2⟩ := hSw; go_simp; try with_reducible rfl)
 try simp only [Act.put, pu1, pu2, pu3, pu4, pu5, pu6]
 refine wpAnyH_take (i := 7) (v := ?_) rfl (by kernel_rfl) (by kernel_rfl) (by kernel_rfl) (fun _ _ _ h => h) (Or.inl ⟨by rfl, ?_⟩) (by assumption) ?_
 rotate_left
 ·(intro Y hSw; (try dsimp only at hSw); obtain ⟨hS0, hS1, hS2⟩ := hSw; go_simp; try with_reducible rfl)
 try simp only [Act.put, pu1, pu2, pu3, pu4, pu5, pu6]
 refine wpAnyH_take (i := 8) (v := ?_) rfl (by kernel_rfl) (by kernel_rfl) (by kernel_rfl) (fun _ _ _ h => h) (Or.inl ⟨by rfl, ?_⟩) (by assumption) ?_
 rotate_left
 ·(intro Y hSw; (try dsimp only at hSw); obtain ⟨hS0, hS1, hS2⟩ := hSw; go_simp; try with_reducible rfl)
 try simp only [Act.put, pu1, pu2, pu3, pu4, pu5, pu6]
 refine wpAnyH_take (i := 9) (v := ?_) rfl (by kernel_rfl) (by kernel_rfl) (by kernel_rfl) (fun _ _ _ h => h) (Or.inl ⟨by rfl, ?_⟩) (by assumption) ?_
 rotate_left
 ·(intro Y hSw; (try dsimp only at hSw); obtain ⟨hS0, hS1, hS2⟩ := hSw; go_simp; try with_reducible rfl)
 try simp only [Act.put, pu1, pu2, pu3, pu4, pu5, pu6]
 refine wpAnyH_take (i := 10) (v := ?_) rfl (by kernel_rfl) (by kernel_rfl) (by kernel_rfl) (fun _ _ _ h => h) (Or.inl ⟨by rfl, ?_⟩) (by assumption) ?_
 rotate_left
 ·(intro Y hSw; (try dsimp only at hSw); obtain ⟨hS0, hS1, hS2⟩ := hSw; go_simp; try with_reducible rfl)
 try simp only [Act.put, pu1, pu2, pu3, pu4, pu5, pu6]
 refine wpAnyH_ready (rs := [3]) (by kernel_rfl) (by simp) ?_
 refine AllReadyH.cons rfl (fun K hK => ?_) AllReadyH.nil
 go_simp
 refine (mwho_calls _ _ _).mono ?_; rintro e W1 ⟨pw, rfl, hW, h⟩
 replace hX := hX.below h hX.lt; (try replace hC := hC.below h hC.lt); (try replace hN := hN.below h hN.lt); (try replace hI := hI.below h hI.lt); replace k := k.trans (h.mono k.size); clear h
 go_wp2_with fail
 refine hK.out _ _ (SpS.of hX) (fun hHeld => ?_)
 clear hK K
 try simp only [Act.put, pu1, pu2, pu3, pu4, pu5, pu6]
 refine wpAnyH_ready (rs := [6]) (by kernel_rfl) (by simp) ?_
 refine AllReadyH.cons rfl (fun K hK => ?_) AllReadyH.nil
 go_simp
 refine (mclass_calls _ _).mono ?_; rintro e W2 ⟨pc, rfl, hC, h⟩
 replace hX := hX.below h hX.lt; (try replace hW := hW.below h hW.lt); (try replace hN := hN.below h hN.lt); (try replace hI := hI.below h hI.lt); replace k := k.trans (h.mono k.size); clear h
 go_wp2_with fail
 refine hK.out _ _ (SpS.of hX) (fun hHeld => ?_)
 clear hK K
 try simp only [Act.put, pu1, pu2, pu3, pu4, pu5, pu6]
 refine wpAnyH_ready (rs := [11]) (by kernel_rfl) (by simp) ?_
 refine AllReadyH.cons rfl (fun K hK => ?_) AllReadyH.nil
 go_simp
 refine (mindex_calls _ _ _).mono ?_; rintro e W3 ⟨pn, pi, rfl, hN, hI, h⟩
 replace hX := hX.below h hX.lt; (try replace hW := hW.below h hW.lt); (try replace hC := hC.below h hC.lt); replace k := k.trans (h.mono k.size); clear h
 go_wp2_with fail
 refine hK.out _ _ (SpS.of hX) (fun hHeld => ?_)
 clear hK K
 try simp only [Act.put, pu1, pu2, pu3, pu4, pu5, pu6]
 refine wpAnyH_ready (rs := [12]) (by kernel_rfl) (by simp) ?_
 refine AllReadyH.cons rfl (fun K hK => ?_) AllReadyH.nil
 go_simp
 obtain ⟨W4, hW4⟩ : ∃ W4, W3.alloc (.cells (askListP (atAsks pw pc pn pi s c i)).toArray 70) = W4 := ⟨_, rfl⟩
 have hrow : AskRowP W4 W3.heap.size (atAsks pw pc pn pi s c i) := by rw [← hW4]; exact askRow_ofP (Blk.new W3 _ _)
 have hans : AnswersP W4 (atAsks pw pc pn pi s c i) := by rw [← hW4]; exact at_answers (hW.alloc _) (hC.alloc _) (hN.alloc _) (hI.alloc _)
 have hX4 : Blk W4 w.heap.size #[.int .i64 s, .int .i64 c, .int .i64 i] 23 := by rw [← hW4]; exact hX.alloc _
 have k4 : Below w.heap.size w W4 := by rw [← hW4]; exact k.alloc k.size _
 have e4 : W3.alloc (.cells #[.func (.func 62) #[] #[.pointer (some ⟨pw, 0, none⟩)], .int .i64 2, .func (.func 63) #[] #[.pointer (some ⟨pc, 0, none⟩)], .int .i64 2, .func (.func 65) #[] #[.pointer (some ⟨pn, 0, none⟩), .pointer (some ⟨pi, 0, none⟩)], .int .i64 4] 70) = W4 := hW4
 rw [e4]
 clear e4 hW4 hX k hW hC hN hI
 refine hK.out _ _ (SpS.of hX4) (fun hHeld => ?_)
 clear hK K
 try simp only [Act.put, pu1, pu2, pu3, pu4, pu5, pu6]
 refine wpAnyH_ready (rs := [13]) (by kernel_rfl) (by simp) ?_
 refine AllReadyH.cons rfl (fun K hK => ?_) AllReadyH.nil
 go_simp
 refine (asked_okM W4 W3.heap.size 3 3 _ rfl (by simp [atAsks]) (Lib.hid hrow) (Lib.hid hans)).mono ?_; rintro e W5 ⟨rfl, h⟩
 rw [atAsks_eq]
 have hX5 := hX4.below h hX4.lt
 have k5 := k4.trans (h.mono k4.size)
 clear hrow hans h hX4 k4
 go_wp2_with fail
 refine hK.out _ _ (SpS.of hX5) (fun hHeld => ?_)
 clear hK K
 try simp only [Act.put, pu1, pu2, pu3, pu4, pu5, pu6]
 refine wpAnyH_take (i := 14) (v := ?_) rfl (by kernel_rfl) (by kernel_rfl) (by kernel_rfl) (fun _ _ _ h => h) (Or.inl ⟨by rfl, ?_⟩) (by assumption) ?_
 rotate_left
 ·(intro Y hSw; (try dsimp only at hSw); obtain ⟨hS0, hS1, hS2⟩ := hSw; go_simp; try with_reducible rfl)
 try simp only [Act.put, pu1, pu2, pu3, pu4, pu5, pu6]
 refine wpAnyH_done (by kernel_rfl) ?_ _
 rw [onlyN_normal]
 clear hHeld
 by_cases hz : spE s c i = 0
 ·have hao : atO s c i = atIM s c i := by unfold atO; rw [if_pos hz]
  obtain ⟨m0, m1⟩ := sp_bd hz
  obtain ⟨p0, p1, p2, p3⟩ := at_page hz
  obtain ⟨⟨⟨a0, a1⟩, a2, a3⟩, _, _⟩ := spE_zero.1 hz
  have hsl : slotI s = true := by unfold slotI; exact decide_eq_true ⟨a0, a1⟩
  have hcl : inI 8 c = true := by unfold inI; exact decide_eq_true ⟨a2, a3⟩
  have hso : sltO c = sltI c := by unfold sltO; rw [if_pos (inC_iff.2 ⟨a2, a3⟩)]
  rw [hz]
  have HAO := Lib.hid hao
  have d0 := hX5.cell 0 (v := .int .i64 s) rfl
  have d1 := hX5.cell 1 (v := .int .i64 c) rfl
  have d2 := hX5.cell 2 (v := .int .i64 i) rfl
  have HZ := Lib.hid hz
  clear hz hao
  go_wp2_with fail
  refine (Region_ok s c hsl hcl _).mono ?_; rintro e W6 ⟨rfl, h6⟩
  have hX6 := hX5.below h6 hX5.lt
  have k6 := k5.trans (h6.mono k5.size)
  clear d0 d1 d2 h6
  have d1 := hX6.cell 1 (v := .int .i64 c) rfl
  go_wp2_with fail
  refine (Slot_ok c _).mono ?_; rintro e W7 ⟨rfl, h7⟩
  rw [hso]
  have hX7 := hX6.below h7 hX6.lt
  have k7 := k6.trans (h7.mono k6.size)
  clear d1 h7
  have d2 := hX7.cell 2 (v := .int .i64 i) rfl
  have HA := Lib.hid (show atIM s c i = (4096 * (s + 1) + 1 + 17 * c) * 256 + i * sltI c + 16 by unfold atIM regJ; omega)
  have hb0 : 0 ≤ (4096 * (s + 1) + 1 + 17 * c) * 256 + i * sltI c + 16 := by rw [← HA.out]; exact p2
  have hb1 : (4096 * (s + 1) + 1 + 17 * c) * 256 + i * sltI c + 16 < 16777216 := by rw [← HA.out]; exact p3
  generalize sltI c = q at *
  clear p0 p1 p2 p3 hso
  go_wp2_with fail
  go_ret2
  refine ⟨?_, k7⟩
  rw [HAO.out, HZ.out, HA.out]
  rfl
 ·have hao : atO s c i = 0 := by unfold atO; rw [if_neg hz]
  have hz1 : (spE s c i == 0) = false := by simpa using hz
  have HAO := Lib.hid hao
  clear hao
  obtain ⟨q, hq⟩ : ∃ q, spE s c i = q := ⟨_, rfl⟩
  have HQ := Lib.hid hq
  rw [hq] at hz hz1 ⊢
  clear hq
  go_wp2_with fail
  go_ret2
  exact ⟨by rw [HAO.out, HQ.out]; rfl, k5⟩
end Go.Proofs.YtlpchcdalfkfcaaGreat


/-
 Package vmem: Get, Peek, Poke, Left, Same with none. Conditions: books in order.
-/
namespace Go.Proofs.YtlpchcdalfkfcaaGreat
open Go.RowKit
attribute [local go_sem] Oper.semAt_some
set_option maxHeartbeats 4000000
set_option maxRecDepth 8000

variable {w0 W : World} {k : Mb} {s : Ms}
theorem LivM.cells (h : LivM w0 W k s) : W.cell? ⟨k.b, 0, none⟩ = some (.pointer (some ⟨k.t, 0, none⟩)) ∧ W.cell? ⟨k.b, 1, none⟩ = some (.pointer (some ⟨k.p, 0, none⟩)) := h.m.cells
theorem LivM.get (h : LivM w0 W k s) (n : Int) : Calls Tryz.prog 43 #[.pointer (some ⟨k.b, 0, none⟩), .int .i64 n] W fun e W' => e = .returned (.tuple #[encE (getE s.D n), .bool (hasR s.D n)]) ∧ Below W.heap.size W W' := by
 obtain ⟨w1, hw1⟩ : ∃ w1, W.alloc (.cells #[.int .i64 0, .int .i64 0, .int .i64 0] 97) = w1 := ⟨_, rfl⟩
 have hR : Blk w1 W.heap.size #[.int .i64 0, .int .i64 0, .int .i64 0] 97 := by rw [← hw1]; exact Blk.new W _ _
 have k1 : Below W.heap.size W w1 := by rw [← hw1]; exact (Below.refl _ W).alloc (Nat.le_refl _) _
 have h1 := h.step k1
 obtain ⟨c0, c1⟩ := h1.cells
 go_enter Tryz.func43, Tryz.ntmps43
 go_wp2_with fail
 clear hw1
 refine (vnone_ok h1.m).mono ?_; rintro e _ ⟨rfl, rfl⟩
 go_wp2_with fail
 refine (Get_ok h1.m.tb n).mono ?_; rintro e w2 ⟨rfl, k2⟩
 have hR2 := hR.below k2 hR.lt
 have kk := k1.trans (k2.mono k1.size)
 have z2 := hR2.lt
 have r0 := hR2.cell 0 (v := .int .i64 0) rfl
 have r1 := hR2.cell 1 (v := .int .i64 0) rfl
 have r2 := hR2.cell 2 (v := .int .i64 0) rfl
 have f0 := hR2.frozen 0
 have f1 := hR2.frozen 1
 have f2 := hR2.frozen 2
 obtain ⟨x, hx⟩ : ∃ x, getE s.D n = x := ⟨_, rfl⟩
 have HX := Lib.hid hx
 rw [hx]
 unfold encE
 clear c0 c1 hx
 go_wp2_with fail
 refine ret_e2 Tryz.results43 W.heap.size (by rfl) (hR2.set3 (.int .i64 x.o) (.int .i64 x.m) (.int .i64 x.f)) rfl rfl ⟨by unfold encE; rw [HX.out]; rfl, ?_⟩
 exact ((kk.setCell (Nat.le_refl _) _).setCell (Nat.le_refl _) _).setCell (Nat.le_refl _) _
theorem LivM.poke (h : LivM w0 W k s) (at_ : Int) (h0 : 0 ≤ at_) (h1 : at_ < 4294967296) {v : Value} (bs : List Int) {B : Nat} (hB : B ≤ W.heap.size) (hv : RowAt B W v bs.length (intVals .u8 bs)) :
  Calls Tryz.prog 17 #[.pointer (some ⟨k.b, 0, none⟩), .int .u32 at_, v] W fun e W' => e = .returned (.int .i64 (rchE s.D (-2) at_ bs.length 2)) ∧ LivM w0 W' k (wrS s (-2) at_ bs) ∧ ChgM k W W' := by
 go_enter Tryz.func17, Tryz.ntmps17
 go_wp2_with fail
 refine (write_ok h.m h.gd.g (-2) at_ h0 h1 bs hB hv).mono ?_; rintro e W' ⟨rfl, hm, hc⟩
 go_wp2_with fail
 go_ret
 exact ⟨rfl, h.chg hm (h.gd.wr (-2) at_ bs h0).1 hc, hc⟩
theorem LivM.peek (h : LivM w0 W k s) (at_ many : Int) (h0 : 0 ≤ at_) (h1 : at_ < 4294967296) (hm : many ≤ 1000000 ∨ 16777216 < many) :
  Calls Tryz.prog 103 #[.pointer (some ⟨k.b, 0, none⟩), .int .u32 at_, .int .i64 many] W fun e W' => ∃ v, e = .returned (.tuple #[v, .int .i64 (rchE s.D (-2) at_ many 1)]) ∧
   W'.ownsRow W.heap.size 5 1 v (rdA s (-2) at_ many).length (intVals .u8 (rdA s (-2) at_ many)) ∧ Below W.heap.size W W' := by
 go_enter Tryz.func103, Tryz.ntmps103
 go_wp2_with fail
 refine (read_ok h.m h.gd.g.snd.b256 (-2) at_ many h0 h1 hm).mono ?_; rintro e W' ⟨v, rfl, ho, hb⟩
 have HO := Lib.hid ho
 clear ho
 go_wp2_with fail
 go_ret2
 exact ⟨v, rfl, HO.out, hb⟩
theorem vnone_nil (w : World) : Calls Tryz.prog 80 #[.pointer none] w fun e w' => e = .returned (.bool true) ∧ w = w' := by
 go_enter Tryz.func80, Tryz.ntmps80
 go_wp2_with fail
 go_ret
 exact ⟨rfl, rfl⟩
theorem LivM.same_nil (h : LivM w0 W k s) : Calls Tryz.prog 86 #[.pointer (some ⟨k.b, 0, none⟩), .pointer none] W fun e W' => e = .returned (.bool false) ∧ W = W' := by
 go_enter Tryz.func86, Tryz.ntmps86
 go_wp2_with fail
 refine (vnone_ok h.m).mono ?_; rintro e _ ⟨rfl, rfl⟩
 go_wp2_with fail
 refine (vnone_nil _).mono ?_; rintro e _ ⟨rfl, rfl⟩
 go_wp2_with fail
 refine (vnone_ok h.m).mono ?_; rintro e _ ⟨rfl, rfl⟩
 go_wp2_with fail
 go_ret
 exact ⟨rfl, rfl⟩
def leftI (s : Ms) (who : Int) : Int := rsvdI s.R who - rsvdH s.F who
theorem LivM.left (h : LivM w0 W k s) (who : Int) : Calls Tryz.prog 48 #[.pointer (some ⟨k.b, 0, none⟩), .int .i64 who] W fun e W' => e = .returned (.int .i64 (leftI s who)) ∧ Below W.heap.size W W' := by
 obtain ⟨c0, c1⟩ := h.cells
 have hb : 0 ≤ rsvdI s.R who ∧ rsvdI s.R who ≤ 16384 ∧ 0 ≤ rsvdH s.F who ∧ rsvdH s.F who ≤ 16384 := by
  unfold rsvdI rsvdH
  have h1 := h.gd.g.le who
  have h2 := resv_le s.R who h.gd.g.snd.r0
  have h3 := h.gd.g.snd.rs
  have h4 := h.gd.g.snd.m1
  unfold sumR at h2
  split <;> omega
 obtain ⟨b0, b1, b2, b3⟩ := hb
 go_enter Tryz.func48, Tryz.ntmps48
 go_wp2_with fail
 refine (vnone_ok h.m).mono ?_; rintro e _ ⟨rfl, rfl⟩
 go_wp2_with fail
 refine (Reserved_ok h.m.pl h.gd.g.snd who).mono ?_; rintro e w2 ⟨rfl, k2⟩
 have HL := Lib.hid (show leftI s who = rsvdI s.R who - rsvdH s.F who from rfl)
 generalize rsvdI s.R who = x at *
 generalize rsvdH s.F who = y at *
 go_wp2_with fail
 go_ret
 exact ⟨by rw [HL.out]; rfl, k2⟩
end Go.Proofs.YtlpchcdalfkfcaaGreat

