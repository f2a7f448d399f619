/-
 Packages pinfoldref15, pinfoldref03: the document's spots. No condition.
-/
import Derived.Test.YtlpchcdalfkfcaaGreatBMeE
import Derived.Test.YtlpchcdalfkfcaaGreatBMeO
import Derived.Test.YtlpchcdalfkfcaaGreatBMeAa
import Derived.Test.YtlpchcdalfkfcaaGreatBFrame
namespace Go.Proofs.YtlpchcdalfkfcaaGreat
open Go.RowKit
attribute [local go_sem] Oper.semAt_some
set_option maxHeartbeats 4000000
set_option maxRecDepth 8000

end Go.Proofs.YtlpchcdalfkfcaaGreat


/-
 Package meta: whose an address is. No condition.
-/
namespace Go.Proofs.YtlpchcdalfkfcaaGreat
open Go.RowKit
attribute [local go_sem] Oper.semAt_some
set_option maxHeartbeats 4000000
set_option maxRecDepth 8000

theorem region_site {s c i : Int} (h : spE s c i = 0) : ∃ p, ofV (atIM s c i / 256) = siteV 2 s c p := by
 obtain ⟨p0, p1, _, _⟩ := at_page h
 obtain ⟨⟨⟨a0, a1⟩, a2, a3⟩, _, _⟩ := spE_zero.1 h
 generalize atIM s c i / 256 = pg at *
 unfold regJ at p0 p1
 obtain ⟨r, rfl⟩ : ∃ r : Nat, s = r := ⟨s.toNat, by omega⟩
 have e := ofK_hit pg 4 0 r 1 (by omega) (by omega)
  (firstK_1 (by simp only [okI, inI, ok2, decide_eq_false_iff_not]; omega) (by simp only [okI, inI, ok2, decide_eq_true_eq]; omega))
  (fun j _ hj => firstK_n (by simp only [okI, inI, ok2, decide_eq_false_iff_not]; omega) (by simp only [okI, inI, ok2, decide_eq_false_iff_not]; omega) (by simp only [okI, inI, ok2, decide_eq_false_iff_not]; omega) (by simp only [okI, inI, ok2, decide_eq_false_iff_not]; omega))
 refine ⟨plI 1 r pg, e.trans ?_⟩
 have ec : clI 1 r pg = c := by simp only [clI]; omega
 rw [ec]
 rfl
theorem site_region {pg r c p : Int} (h : ofV pg = siteV 2 r c p) : (0 ≤ r ∧ r < 4) ∧ 0 ≤ c ∧ c < 8 := by
 rcases ofV_cases pg with e | ⟨r', i, h1, h2, h3, h4⟩
 ·rw [h] at e
  have := (siteV_inj e).1
  omega
 ·rw [h] at h4
  obtain ⟨e1, e2, e3, _⟩ := siteV_inj h4
  obtain rfl : i = 1 := by omega
  subst e2 e3
  simp only [okI, ok2, decide_eq_true_eq] at h3
  simp only [clI]
  omega
theorem spot_info : (Tryz.prog.info? 23).map (·.size) = some 3 := by kernel_rfl
theorem run_loadSp {w : World} {g : Nat} {cs : Array Value} {t : TypeId} (hB : Blk w g cs t) (hs : cs.size = 3) : (loadVar 23 ⟨g, 0, none⟩).run Tryz.prog w = .ok (.agg cs) w :=
 run_loadVar_row w g t _ cs (0, 0) _ hB Tryz.underlying23 rfl (by rw [hs]; exact spot_info)
theorem ret_s2 {fn : Func} {R : Ending → World → Prop} {a : Act} {w : World} {p u : Tmp} (h : fn.results = #[.cell p 23, .tmp u]) (g : Nat) {cs : Array Value} {t : TypeId} (hp : a.tmps.getD p undef = .pointer (some ⟨g, 0, none⟩))
  (hB : Blk w g cs t) (hs : cs.size = 3) (hd : a.defers = []) (hR : R (.returned (.tuple #[.agg cs, a.tmps.getD u undef])) w) : bodyPost Tryz.prog fn R .ret a w := by
 refine bodyPost_ret (v := .tuple #[.agg cs, a.tmps.getD u undef]) ?_ hd hR
 have hp' : a.tmps[p]?.getD undef = .pointer (some ⟨g, 0, none⟩) := by simpa using hp
 simp [results, h, hp', asAddr, run_loadSp hB hs]
theorem mFind_ok (a : Int) (h0 : 0 ≤ a) (h1 : a < 4294967296) (w : World) : Calls Tryz.prog 11 #[.int .u32 a] w fun e w' => ∃ s c i no, e = .returned (.tuple #[.agg #[.int .i64 s, .int .i64 c, .int .i64 i], .int .i64 no]) ∧ FindSp a s c i no ∧ Below w.heap.size w w' := by
 obtain ⟨w0, hw0⟩ : ∃ w0, w.alloc (.cells #[.int .i64 0, .int .i64 0, .int .i64 0] 23) = w0 := ⟨_, rfl⟩
 have hR : Blk w0 w.heap.size #[.int .i64 0, .int .i64 0, .int .i64 0] 23 := by rw [← hw0]; exact Blk.new w _ _
 have k : Below w.heap.size w w0 := by rw [← hw0]; exact (Below.refl _ w).alloc (Nat.le_refl _) _
 have z1 := hR.lt
 have r0 := hR.cell 0 (v := .int .i64 0) rfl
 have r1 := hR.cell 1 (v := .int .i64 0) rfl
 have r2 := hR.cell 2 (v := .int .i64 0) rfl
 have f0 := hR.frozen 0
 have f1 := hR.frozen 1
 have f2 := hR.frozen 2
 by_cases hlt : a < 16777216
 ·have hpg : inI 65536 (a / 256) = true := by unfold inI; exact decide_eq_true (by omega)
  obtain ⟨q, r, c, p, hv⟩ := ofV_site (a / 256)
  go_enter Tryz.func11, Tryz.ntmps11
  go_wp2_with fail
  clear hw0
  refine (Split_ok a h0 hlt _).mono ?_; rintro e _ ⟨rfl, rfl⟩
  go_wp2_with fail
  refine (Of_okW _ hpg _).mono ?_; rintro e w1 ⟨rfl, j1⟩
  rw [hv]
  unfold siteV
  have hR1 := hR.below j1 hR.lt
  have k1 := k.trans (j1.mono k.size)
  have HV := Lib.hid hv
  clear hv j1 hR k z1 r0 r1 r2 f0 f1 f2
  have z1 := hR1.lt
  have r0 := hR1.cell 0 (v := .int .i64 0) rfl
  have r1 := hR1.cell 1 (v := .int .i64 0) rfl
  have r2 := hR1.cell 2 (v := .int .i64 0) rfl
  have f0 := hR1.frozen 0
  have f1 := hR1.frozen 1
  have f2 := hR1.frozen 2
  have HNO := Lib.hid (show ∀ s c0 i, spE s c0 i = 0 → atIM s c0 i = a → q = 2 ∧ r = s ∧ c = c0 from fun s c0 i h1 h2 => by
   obtain ⟨p', e⟩ := region_site h1
   rw [h2, HV.out] at e
   obtain ⟨e1, e2, e3, _⟩ := siteV_inj e
   exact ⟨e1, e2, e3⟩)
  by_cases hq : q = 2
  ·subst hq
   obtain ⟨⟨a0, a1⟩, a2, a3⟩ := site_region HV.out
   have hz0 : spE r c 0 = 0 := spE_zero.2 ⟨⟨⟨a0, a1⟩, a2, a3⟩, by omega, by rcases cls8 a2 a3 with rfl | rfl | rfl | rfl | rfl | rfl | rfl | rfl <;> decide⟩
   obtain ⟨_, _, q0, q1⟩ := at_page hz0
   have hao : atO r c 0 = atIM r c 0 := by unfold atO; rw [if_pos hz0]
   have hsl : sltO c = sltI c := by unfold sltO; rw [if_pos (inC_iff.2 ⟨a2, a3⟩)]
   have hbd : 48 ≤ sltI c ∧ sltI c ≤ 288 := by rcases cls8 a2 a3 with rfl | rfl | rfl | rfl | rfl | rfl | rfl | rfl <;> decide
   obtain ⟨b0, b1⟩ := hbd
   go_wp2_with fail
   obtain ⟨w2, hw2⟩ : ∃ w2, (w1.alloc (.cells #[.int .i64 2, .int .i64 r, .int .i64 c, .int .i64 p] 85)).alloc (.cells #[.int .i64 r, .int .i64 c, .int .i64 0] 23) = w2 := ⟨_, rfl⟩
   have hP2 : Blk w2 (w1.heap.size + 1) #[.int .i64 r, .int .i64 c, .int .i64 0] 23 := by rw [← hw2]; exact Blk.newAt _ _ _ (by simp)
   have hR2 : Blk w2 w.heap.size #[.int .i64 0, .int .i64 0, .int .i64 0] 23 := by rw [← hw2]; exact (hR1.alloc _).alloc _
   have k2 : Below w.heap.size w w2 := by rw [← hw2]; exact (k1.alloc k1.size _).alloc (by simp; omega) _
   rw [hw2]
   refine (mAt_ok r c 0 _).mono ?_; rintro e w3 ⟨rfl, h3⟩
   rw [hz0, hao]
   have hP3 := hP2.below h3 hP2.lt
   have hR3 := hR2.below h3 hR2.lt
   have k3 := k2.trans (h3.mono k2.size)
   clear hw2 hP2 hR2 k2 h3 hR1 k1 r0 r1 r2 f0 f1 f2 hao hz0
   obtain ⟨pb, hpb⟩ : ∃ pb, w1.heap.size + 1 = pb := ⟨_, rfl⟩
   try simp only [hpb]
   rw [hpb] at hP3
   have hne : w.heap.size < pb := by omega
   clear hpb z1
   have d1 := hP3.cell 1 (v := .int .i64 c) rfl
   go_wp2_with fail
   refine (Slot_ok c _).mono ?_; rintro e w4 ⟨rfl, h4⟩
   rw [hsl]
   have hP4 := hP3.below h4 hP3.lt
   have hR4 := hR3.below h4 hR3.lt
   have k4 := k3.trans (h4.mono k3.size)
   clear d1 h4 hP3 hR3 k3 hsl
   have HI := Lib.hid (show ∀ i, spE r c i = 0 → atIM r c i = a → Int.tdiv (a - atIM r c 0) (sltI c) = i from fun i h1 h2 => by rw [← h2]; exact at_index h1)
   generalize atIM r c 0 = f at *
   generalize sltI c = z at *
   obtain ⟨j, hj⟩ : ∃ j, Int.tdiv (a - f) z = j := ⟨_, rfl⟩
   rw [hj] at HI
   have hjb : -16777216 ≤ j ∧ j ≤ 16777216 := by
    have := Int.natAbs_tdiv_le_natAbs (a - f) z
    rw [hj] at this
    omega
   obtain ⟨j0, j1⟩ := hjb
   have hz1 : z ≠ 0 := by omega
   have d0 := hP4.cell 0 (v := .int .i64 r) rfl
   have d1 := hP4.cell 1 (v := .int .i64 c) rfl
   have d2 := hP4.cell 2 (v := .int .i64 0) rfl
   have g2 := hP4.frozen 2
   have zp := hP4.lt
   go_wp2_with fail
   obtain ⟨w5, hw5⟩ : ∃ w5, w4.setCell ⟨pb, 2, none⟩ (.int .i64 j) = w5 := ⟨_, rfl⟩
   have hP5 : Blk w5 pb #[.int .i64 r, .int .i64 c, .int .i64 j] 23 := by rw [← hw5]; exact hP4.set 2 (.int .i64 j)
   have hR5 : Blk w5 w.heap.size #[.int .i64 0, .int .i64 0, .int .i64 0] 23 := by rw [← hw5]; exact hR4.setOther _ _ (by simp; omega)
   have k5 : Below w.heap.size w w5 := by rw [← hw5]; exact k4.setCell (Nat.le_of_lt hne) _
   rw [hw5]
   clear hw5 hP4 hR4 k4 d0 d1 d2 g2 zp hj
   refine (mAt_ok r c j _).mono ?_; rintro e w6 ⟨rfl, h6⟩
   have hP6 := hP5.below h6 hP5.lt
   have hR6 := hR5.below h6 hR5.lt
   have k6 := k5.trans (h6.mono k5.size)
   clear h6 hP5 hR5 k5
   have d0 := hP6.cell 0 (v := .int .i64 r) rfl
   have d1 := hP6.cell 1 (v := .int .i64 c) rfl
   have d2 := hP6.cell 2 (v := .int .i64 j) rfl
   have r0 := hR6.cell 0 (v := .int .i64 0) rfl
   have r1 := hR6.cell 1 (v := .int .i64 0) rfl
   have r2 := hR6.cell 2 (v := .int .i64 0) rfl
   have f0 := hR6.frozen 0
   have f1 := hR6.frozen 1
   have f2 := hR6.frozen 2
   have z1 := hR6.lt
   have z2 := hP6.lt
   by_cases hs0 : spE r c j = 0
   ·have hao : atO r c j = atIM r c j := by unfold atO; rw [if_pos hs0]
    rw [hs0, hao]
    have HS := Lib.hid hs0
    clear hs0 hao
    by_cases hy : atIM r c j = a
    ·rw [hy]
     have HY := Lib.hid hy
     clear hy
     go_wp2_with fail
     refine ret_s2 Tryz.results11 w.heap.size (by rfl) (hR6.set3 (.int .i64 r) (.int .i64 c) (.int .i64 j)) rfl rfl ⟨r, c, j, 0, rfl, .inl ⟨rfl, HS.out, HY.out⟩, ?_⟩
     exact ((k6.setCell (Nat.le_refl _) _).setCell (Nat.le_refl _) _).setCell (Nat.le_refl _) _
    ·have HN := Lib.hid hy
     have hy1 : (atIM r c j == a) = false := by simpa using hy
     generalize atIM r c j = y at hy hy1 ⊢
     go_wp2_with fail
     refine ret_s2 Tryz.results11 w.heap.size (by rfl) (hR6.set3 (.int .i64 0) (.int .i64 0) (.int .i64 0)) rfl rfl ⟨0, 0, 0, 250, rfl, .inr ⟨⟨rfl, rfl, rfl, rfl⟩, fun s c i h1 h2 => ?_⟩, ?_⟩
     ·obtain ⟨_, rfl, rfl⟩ := HNO.out s c i h1 h2
      obtain rfl := HI.out i h1 h2
      exact HN.out h2
     ·exact ((k6.setCell (Nat.le_refl _) _).setCell (Nat.le_refl _) _).setCell (Nat.le_refl _) _
   ·have HN := Lib.hid hs0
    have hs1 : (spE r c j == 0) = false := by simpa using hs0
    generalize spE r c j = y at hs0 hs1 ⊢
    go_wp2_with fail
    refine ret_s2 Tryz.results11 w.heap.size (by rfl) (hR6.set3 (.int .i64 0) (.int .i64 0) (.int .i64 0)) rfl rfl ⟨0, 0, 0, 250, rfl, .inr ⟨⟨rfl, rfl, rfl, rfl⟩, fun s c i h1 h2 => ?_⟩, ?_⟩
    ·obtain ⟨_, rfl, rfl⟩ := HNO.out s c i h1 h2
     obtain rfl := HI.out i h1 h2
     exact HN.out h1
    ·exact ((k6.setCell (Nat.le_refl _) _).setCell (Nat.le_refl _) _).setCell (Nat.le_refl _) _
  ·have hq1 : (q == 2) = false := by simpa using hq
   go_wp2_with fail
   refine ret_s2 Tryz.results11 w.heap.size (by rfl) ((hR1.set3 (.int .i64 0) (.int .i64 0) (.int .i64 0)).alloc _) rfl rfl ⟨0, 0, 0, 250, rfl, .inr ⟨⟨rfl, rfl, rfl, rfl⟩, fun s c i h1 h2 => hq (HNO.out s c i h1 h2).1⟩, ?_⟩
   exact (((k1.setCell (Nat.le_refl _) _).setCell (Nat.le_refl _) _).setCell (Nat.le_refl _) _).alloc (by simp; omega) _
 ·have hlt' : 16777216 ≤ a := by omega
  clear hlt
  go_enter Tryz.func11, Tryz.ntmps11
  go_wp2_with fail
  clear hw0
  refine (Split_no a hlt' _).mono ?_; rintro e _ ⟨rfl, rfl⟩
  go_wp2_with fail
  refine ret_s2 Tryz.results11 w.heap.size (by rfl) (hR.set3 (.int .i64 0) (.int .i64 0) (.int .i64 0)) rfl rfl ⟨0, 0, 0, 250, rfl, .inr ⟨⟨rfl, rfl, rfl, rfl⟩, fun s c i h1 h2 => by have := (at_page h1).2.2.2; omega⟩, ?_⟩
  exact ((k.setCell (Nat.le_refl _) _).setCell (Nat.le_refl _) _).setCell (Nat.le_refl _) _
end Go.Proofs.YtlpchcdalfkfcaaGreat


/-
 Packages pinfoldref15: the document's address of a spot; whose an address is. No condition.
-/
namespace Go.Proofs.YtlpchcdalfkfcaaGreat
open Go.RowKit
attribute [local go_sem] Oper.semAt_some
set_option maxHeartbeats 4000000
set_option maxRecDepth 8000

end Go.Proofs.YtlpchcdalfkfcaaGreat


/-
 Package pinfoldlaw15: works; MetaFinds. No condition.
-/
namespace Go.Proofs.YtlpchcdalfkfcaaGreat
open Go.RowKit Go.ChangeShapes
attribute [local go_sem] Oper.semAt_some
set_option maxHeartbeats 8000000
set_option maxRecDepth 8000

theorem num_callsM (n : Int) (w : World) : Calls Tryz.prog 9 #[.int .i64 n] w fun e w' => e = .returned (.int .i64 n) ∧ w = w' := by
 go_enter Tryz.func9, Tryz.ntmps9
 go_wp2
 go_ret
 exact ⟨rfl, rfl⟩
theorem find_row1 {s c i no : Int} (h : FindSp 1048848 s c i no) : s = 0 ∧ c = 0 ∧ i = 0 ∧ no = 0 := h.uniq (.inl ⟨rfl, by decide, by decide⟩)
theorem find_row2 {s c i no : Int} (h : FindSp 1048849 s c i no) : s = 0 ∧ c = 0 ∧ i = 0 ∧ no = 250 := h.uniq (.inr ⟨⟨rfl, rfl, rfl, rfl⟩, fun s c i hz e => by
 obtain ⟨⟨⟨a0, a1⟩, a2, a3⟩, _, _⟩ := spE_zero.1 hz
 unfold atIM regJ at e
 rcases cls8 a2 a3 with rfl | rfl | rfl | rfl | rfl | rfl | rfl | rfl <;> simp only [slt_v] at e <;> omega⟩)
theorem works_okM (w : World) : Calls Tryz.prog 13 #[] w fun e w' => e = .returned (.bool true) ∧ Below w.heap.size w w' := by
 go_enter Tryz.func13, Tryz.ntmps13
 go_wp2_with fail
 refine (mAt_ok 0 0 0 _).mono ?_; rintro e w1 ⟨rfl, k1⟩
 rw [show atO 0 0 0 = 1048848 by decide, show spE 0 0 0 = 0 by decide]
 go_wp2_with fail
 refine (mAt_ok 0 0 1 _).mono ?_; rintro e w2 ⟨rfl, k2⟩
 rw [show atO 0 0 1 = 1048896 by decide, show spE 0 0 1 = 0 by decide]
 replace k2 := k1.trans (k2.mono k1.size)
 clear k1
 go_wp2_with fail
 refine (mFind_ok 1048848 (by decide) (by decide) _).mono ?_; rintro e w3 ⟨s, c, i, no, rfl, hf, k3⟩
 obtain ⟨rfl, rfl, rfl, rfl⟩ := find_row1 hf
 replace k3 := k2.trans (k3.mono k2.size)
 clear k2 hf
 go_wp2_with fail
 obtain ⟨w4, hw4⟩ : ∃ w4, w3.alloc (.cells #[.int .i64 0, .int .i64 0, .int .i64 0] 23) = w4 := ⟨_, rfl⟩
 have hX : Blk w4 w3.heap.size #[.int .i64 0, .int .i64 0, .int .i64 0] 23 := by rw [← hw4]; exact Blk.new _ _ _
 have k4 : Below w.heap.size w w4 := by rw [← hw4]; exact k3.alloc k3.size _
 rw [hw4]
 clear hw4 k3
 obtain ⟨bx, hbx⟩ : ∃ b, w3.heap.size = b := ⟨_, rfl⟩
 rw [hbx] at hX ⊢
 clear hbx
 refine (mFind_ok 1048849 (by decide) (by decide) _).mono ?_; rintro e w5 ⟨s, c, i, no, rfl, hf, k5⟩
 obtain ⟨rfl, rfl, rfl, rfl⟩ := find_row2 hf
 have hX5 := hX.below k5 hX.lt
 replace k5 := k4.trans (k5.mono k4.size)
 clear k4 hf hX
 go_wp2_with fail
 refine (mAt_ok 0 0 85 _).mono ?_; rintro e w6 ⟨rfl, k6⟩
 rw [show atO 0 0 85 = 0 by decide, show spE 0 0 85 = 4 by decide]
 have j6 : Below w5.heap.size w5 w6 := ((Below.refl _ w5).alloc (Nat.le_refl _) _).trans (k6.mono (by simp))
 have hX6 := hX5.below j6 hX5.lt
 replace k6 := k5.trans (j6.mono k5.size)
 clear k5 j6 hX5
 go_wp2_with fail
 refine (mAt_ok 4 0 0 _).mono ?_; rintro e w7 ⟨rfl, k7⟩
 rw [show atO 4 0 0 = 0 by decide, show spE 4 0 0 = 2 by decide]
 have hX7 := hX6.below k7 hX6.lt
 replace k7 := k6.trans (k7.mono k6.size)
 clear k6 hX6
 go_wp2_with fail
 refine (vNew_ok 1 (by decide) (by decide) w7).mono ?_; rintro e W ⟨k, rfl, hm, hlo, _, hb⟩
 have L : LivM w7 W k ⟨1, [], [], []⟩ := ⟨hm, MGd.new 1 (by decide) (by decide), hb, hlo⟩
 have hX8 := hX7.below hb hX7.lt
 have k8 := k7.trans (hb.mono k7.size)
 clear hm hlo hb k7 hX7
 go_wp2_with fail
 refine (mPut_no L 0 0 0 0 0 0 (by decide)).mono ?_; rintro e W9 ⟨rfl, k9⟩
 rw [show putX ⟨1, [], [], []⟩ 0 0 0 (rgtR 0 0) = 5 by decide]
 have hX9 := hX8.below k9 hX8.lt
 replace k9 := k8.trans (k9.mono k8.size)
 clear k8 hX8 L
 have r0 := hX9.cell 0 (v := .int .i64 0) rfl
 have r1 := hX9.cell 1 (v := .int .i64 0) rfl
 have r2 := hX9.cell 2 (v := .int .i64 0) rfl
 go_wp2_with fail
 refine (num_callsM _ _).mono ?_; rintro e w1 ⟨rfl, rfl⟩
 go_wp2_with fail
 refine (num_callsM _ _).mono ?_; rintro e w1 ⟨rfl, rfl⟩
 go_wp2_with fail
 refine (num_callsM _ _).mono ?_; rintro e w1 ⟨rfl, rfl⟩
 go_wp2_with fail
 refine (num_callsM _ _).mono ?_; rintro e w1 ⟨rfl, rfl⟩
 go_wp2_with fail
 refine (num_callsM _ _).mono ?_; rintro e w1 ⟨rfl, rfl⟩
 go_wp2_with fail
 refine (num_callsM _ _).mono ?_; rintro e w1 ⟨rfl, rfl⟩
 go_wp2_with fail
 refine (num_callsM _ _).mono ?_; rintro e w1 ⟨rfl, rfl⟩
 go_wp2_with fail
 refine (num_callsM _ _).mono ?_; rintro e w1 ⟨rfl, rfl⟩
 go_wp2_with fail
 go_ret
 exact ⟨rfl, k9⟩
end Go.Proofs.YtlpchcdalfkfcaaGreat


/-
 Package pinfoldlaw15: the memory; MetaSpoils. No condition.
-/
namespace Go.Proofs.YtlpchcdalfkfcaaGreat
open Go.RowKit Go.ChangeShapes
attribute [local go_sem] Oper.semAt_some
set_option maxHeartbeats 8000000
set_option maxRecDepth 8000

theorem memory_okM (w : World) : Calls Tryz.prog 14 #[] w fun e W => ∃ k : Mb, e = .returned (.tuple #[.pointer (some ⟨k.b, 0, none⟩), .bool true]) ∧ LivM w W k memS := by
 go_enter Tryz.func14, Tryz.ntmps14
 go_wp2_with fail
 refine (vNew_ok 100 (by decide) (by decide) w).mono ?_; rintro e W ⟨k, rfl, hm, hlo, _, hb⟩
 have L : LivM w W k ⟨100, [], [], []⟩ := ⟨hm, MGd.new 100 (by decide) (by decide), hb, hlo⟩
 clear hm hlo hb
 go_wp2_with fail
 refine (L.reserve 63 100).mono ?_; rintro e W2 ⟨rfl, L2, _⟩
 rw [show resErr (⟨100, [], [], []⟩ : Ms).many (⟨100, [], [], []⟩ : Ms).F (⟨100, [], [], []⟩ : Ms).R 63 100 = 0 by decide]
 rw [show ({ (⟨100, [], [], []⟩ : Ms) with R := resAfter (⟨100, [], [], []⟩ : Ms).many (⟨100, [], [], []⟩ : Ms).F (⟨100, [], [], []⟩ : Ms).R 63 100 } : Ms) = memS by decide] at L2
 go_wp2_with fail
 go_wp2_with fail
 refine (num_callsM _ _).mono ?_; rintro e w1 ⟨rfl, rfl⟩
 go_wp2_with fail
 refine (num_callsM _ _).mono ?_; rintro e w1 ⟨rfl, rfl⟩
 go_wp2_with fail
 go_ret2
 exact ⟨k, rfl, L2⟩
end Go.Proofs.YtlpchcdalfkfcaaGreat


/-
 Law frame: an array of bytes as the caller hands it in. No condition.
-/
namespace Go.Proofs.YtlpchcdalfkfcaaGreat
open Go.ChangeShapes Go.WideShapes Go.ChangeAt Go.RowKit
set_option maxHeartbeats 1000000
set_option maxRecDepth 8000

end Go.Proofs.YtlpchcdalfkfcaaGreat

