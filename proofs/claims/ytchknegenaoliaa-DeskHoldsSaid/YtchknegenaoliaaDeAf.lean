/-
  Package pinfoldlaw21: act, the other calls. Conditions: what stands at a desk.
-/
import Derived.Test.YtchknegenaoliaaDeAe
namespace Go.Proofs.Ytchknegenaoliaa
open Go.RowKit
attribute [local go_sem] Oper.semAt_some
set_option maxHeartbeats 1000000
set_option maxRecDepth 4000

theorem act2_ok {w : World} {b m : Nat} {n : Int} {P : List Ten} {T : Thr} (hD : DkAt w b m P T) (hg : Good n P T) (hn : n ≤ 1000) (x : ActD) (ha : x.a = 2) :
    Calls Try.prog 17 #[.pointer (some ⟨b, 0, none⟩), .agg (refV P (hsT T)), .agg (actC x)] w fun e w' => ActR w b m P (binT P T x.t x.h) e w' b m := by
  obtain ⟨w0, hw0⟩ : ∃ w0, ((w.alloc (.cells (refV P (hsT T)) 52)).alloc (.cells (actC x) 30)).alloc (.cells zerV 52) = w0 := ⟨_, rfl⟩
  have k0 : Below w.heap.size w w0 := by rw [← hw0]; exact (((Below.refl _ w).alloc (Nat.le_refl _) _).alloc (by simp) _).alloc (by simp; omega) _
  have hx : AcS w.heap.size (refV P (hsT T)) x w0 := ⟨by rw [← hw0]; exact ((Blk.new w _ _).alloc _).alloc _, by rw [← hw0]; exact (Blk.newAt _ _ _ (by simp)).alloc _, by rw [← hw0]; exact Blk.newAt _ _ _ (by simp)⟩
  have hD0 := hD.step k0
  have hbs := hD.blk.lt
  have hms := hD.mp.lt
  have hz0 : w.heap.size + 3 ≤ w0.heap.size := by have := hx.o.lt; omega
  have hw0' : ((w.alloc (.cells (refV P (hsT T)) 52)).alloc (.cells (actC x) 30)).alloc (.cells #[.int .i64 0, .bool false, .int .i64 0, .int .i64 0, .int .i64 0, .bool false, .int .i64 0, .int .i64 0, .int .i64 0, .bool false, .int .i64 0, .int .i64 0, .int .i64 0, .bool false, .int .i64 0, .int .i64 0, .int .i64 0, .int .i64 0, .int .i64 0, .int .i64 0, .int .i64 0, .int .i64 0, .int .i64 0, .int .i64 0] 52) = w0 := hw0
  obtain ⟨s, hs⟩ : ∃ s, w.heap.size = s := ⟨_, rfl⟩
  have HS := Lib.hid hs
  have kc : Chg2 b m w w0 := Chg2.of_below k0
  rw [hs] at hx hbs hms hz0
  have hL := hsT_L hg.len T
  have HSZ := Lib.hid hL.size
  have HL := Lib.hid hL
  have HG := Lib.hid hg
  clear hw0 hL hD k0
  obtain ⟨xa, xt, xq, xf, ⟨xs, xg⟩⟩ := x
  dsimp only at ha hw0' ⊢
  have c0 : w0.cell? ⟨s + 1, 0, none⟩ = some (.int .i64 xa) := hx.x.cell 0 rfl
  have c1 : w0.cell? ⟨s + 1, 1, none⟩ = some (.int .i64 xt) := hx.x.cell 1 rfl
  have c2 : w0.cell? ⟨s + 1, 2, none⟩ = some (.int .i64 xq) := hx.x.cell 2 rfl
  have c3 : w0.cell? ⟨s + 1, 3, none⟩ = some (.int .i64 xf) := hx.x.cell 3 rfl
  have c4 : w0.cell? ⟨s + 1, 4, none⟩ = some (.int .i64 xs) := hx.x.cell 4 rfl
  have c5 : w0.cell? ⟨s + 1, 5, none⟩ = some (.int .i64 xg) := hx.x.cell 5 rfl
  subst ha
  go_enter Try.func17, Try.ntmps17
  go_wp2_with (first | refine wpList_loadB ty24 rfl _ rfl s rfl hx.r HSZ.out ?_)
  clear hw0' c0 c1 c2 c3 c4 c5 hs
  refine (rBind_ok HL.out xt ⟨xs, xg⟩ w0).mono ?_; rintro e w1 ⟨rfl, k1⟩
  have hx1 := hx.step k1
  have hD1 := hD0.step k1
  have kc1 := kc.trans (Chg2.of_below k1)
  have hz1 := k1.size
  obtain ⟨e1, e2⟩ := bin_hs (P := P) HG.out.srt xt ⟨xs, xg⟩
  rw [e1, e2]
  obtain ⟨T1, hT1⟩ : ∃ T1, binT P T xt ⟨xs, xg⟩ = T1 := ⟨_, rfl⟩
  obtain ⟨y, hy⟩ : ∃ y, binH P T xt ⟨xs, xg⟩ = y := ⟨_, rfl⟩
  obtain ⟨er, her⟩ : ∃ er, binE P xt ⟨xs, xg⟩ = er := ⟨_, rfl⟩
  rw [hT1, hy, her]
  have HT1 := Lib.hid hT1
  have HY := Lib.hid hy
  have HE := Lib.hid her
  obtain ⟨P1, hP1⟩ : ∃ P1 : List Ten, P1 = P := ⟨_, rfl⟩
  have HSZ1 := Lib.hid (hsT_L HG.out.len T1).size
  rw [← hP1] at HSZ1 ⊢
  have HP1 := Lib.hid hP1
  unfold encH
  clear hT1 hy her k1 hx hD0 kc hP1 e1 e2
  go_wp2_with (first | refine wpList_storeB (old := zerV) (t' := 52) ty24 rfl _ _ rfl w1.heap.size (refV P1 (hsT T1)) rfl rfl ((Blk.new w1 _ _).alloc _) rfl HSZ1.out (refV_one _ _) ?_ | (refine wpList_storeB (old := #[.int .i64 0, .int .i64 0]) (t' := 28) ty2 rfl _ _ rfl (w1.heap.size + 1) #[.int .i64 y.s, .int .i64 y.g] rfl rfl ?q1 rfl rfl (one2 _ _) ?_; exact ((Blk.newAt _ _ _ (by simp)).setCellsO _ _ (by omega)); generalize hw2 : World.setCells (World.setCells _ w1.heap.size 0 _) (w1.heap.size + 1) 0 _ = w2; have hk2 : Below w1.heap.size w1 w2 := (by rw [← hw2]; exact bel_setCells (bel_setCells (((Below.refl _ w1).alloc (Nat.le_refl _) _).alloc (by simp) _) (Nat.le_refl _) _ _) (by omega) _ _); have hN1 : Blk w2 w1.heap.size (refV P1 (hsT T1)) 52 := (by rw [← hw2]; exact (((Blk.new w1 _ _).alloc _).whole _ (HSZ1.out.trans rfl)).setCellsO _ _ (by omega)); have hN2 : Blk w2 (w1.heap.size + 1) #[.int .i64 y.s, .int .i64 y.g] 28 := (by rw [← hw2]; exact ((Blk.newAt _ _ _ (by simp)).setCellsO _ _ (by omega)).whole _ rfl); have hx2 := hx1.step hk2; have c0 : w2.cell? ⟨s + 1, 0, none⟩ = some (.int .i64 _) := hx2.x.cell 0 rfl; have c1 : w2.cell? ⟨s + 1, 1, none⟩ = some (.int .i64 xt) := hx2.x.cell 1 rfl; have c2 : w2.cell? ⟨s + 1, 2, none⟩ = some (.int .i64 xq) := hx2.x.cell 2 rfl; have c3 : w2.cell? ⟨s + 1, 3, none⟩ = some (.int .i64 xf) := hx2.x.cell 3 rfl; have c4 : w2.cell? ⟨s + 1, 4, none⟩ = some (.int .i64 xs) := hx2.x.cell 4 rfl; have c5 : w2.cell? ⟨s + 1, 5, none⟩ = some (.int .i64 xg) := hx2.x.cell 5 rfl; clear hw2))
  have hD2 := hD1.step hk2
  have kc2 := kc1.trans (Chg2.of_below hk2)
  have hz2 := hk2.size
  refine (Bind_ok hD2 xt ⟨xs, xg⟩).mono ?_; rintro e w3 ⟨rfl, hD3, kch⟩
  rw [HY.out, HE.out]
  rw [HT1.out] at hD3
  have hx3 := hx2.chg2 (kch.r b) hbs hms
  have hN13 := kch.blk hN1 (show w1.heap.size ≠ m by omega)
  have hN23 := kch.blk hN2 (show w1.heap.size + 1 ≠ m by omega)
  have kc3 := kc2.trans (kch.r b)
  have hz3 := kch.size
  have hnl := hN2.lt
  unfold encH
  clear hN1 hN2 hx2 hD2 kc2 kch hk2 hx1 hD1 kc1
  obtain ⟨w4, hw4⟩ : ∃ w4, w3.alloc (.cells #[.int .i64 y.s, .int .i64 y.g] 28) = w4 := ⟨_, rfl⟩
  have k4 : Below w3.heap.size w3 w4 := by rw [← hw4]; exact (Below.refl _ w3).alloc (Nat.le_refl _) _
  have hM4 : Blk w4 w3.heap.size #[.int .i64 y.s, .int .i64 y.g] 28 := by rw [← hw4]; exact Blk.new w3 _ _
  have hA5 : A5 w1.heap.size w3.heap.size (w1.heap.size + 1) (refV P1 (hsT T1)) y w4 := ⟨hN13.below k4 hN13.lt, hM4, hN23.below k4 hN23.lt⟩
  have hx4 := hx3.step k4
  have hD4 := hD3.step k4
  have kc4 := kc3.trans (Chg2.of_below k4)
  clear hN13 hN23 hM4 k4 hx3 hD3 kc3 c0 c1 c2 c3 c4 c5
  have hz4 : w3.heap.size ≤ w4.heap.size := by rw [← hw4]; simp
  have hz3' := hz3
  go_wp2_with fail
  clear hw4
  refine wp_onlyN ?_
  have kd := (Below.refl w4.heap.size w4).drew
  replace hA5 := hA5.step kd
  replace hx4 := hx4.step kd
  replace hD4 := hD4.step kd
  replace kc4 := kc4.trans (Chg2.of_below kd)
  refine wp_region_held_drew (S := A5 w1.heap.size w3.heap.size (w1.heap.size + 1) (refV P1 (hsT T1)) y) (by kernel_rfl) hA5 (fun hHeld => ?_)
  change wpAnyH _ _ _ _ _ _ _ _ w4.drew
  generalize w4.drew = w5 at hA5 hx4 hD4 kc4 hHeld ⊢
  clear kd
  refine wpAnyH_take (i := 0) (v := ?_) rfl (by kernel_rfl) (by kernel_rfl) (by kernel_rfl) (fun _ _ _ h => h) (Or.inl ⟨by rfl, ?_⟩) (by assumption) ?_
  rotate_left
  · (intro Y hSw; (try dsimp only at hSw); obtain ⟨hS0, hS1, hS2⟩ := hSw; go_simp; try with_reducible rfl)
  try simp only [Act.put, List.getElem_toArray, List.getElem_cons_zero, List.getElem_cons_succ, List.setIfInBounds_toArray, List.set_cons_zero, List.set_cons_succ]
  refine wpAnyH_take (i := 1) (v := .agg (refV P1 (hsT T1))) rfl (by kernel_rfl) (by kernel_rfl) (by kernel_rfl) (fun _ _ _ h => h) (Or.inl ⟨by rfl, fun Y hSw => exec_loadB ty24 _ rfl w1.heap.size rfl hSw.r HSZ1.out⟩) (by assumption) ?_
  try simp only [Act.put, List.getElem_toArray, List.getElem_cons_zero, List.getElem_cons_succ, List.setIfInBounds_toArray, List.set_cons_zero, List.set_cons_succ]
  refine wpAnyH_take (i := 2) (v := .agg #[.int .i64 y.s, .int .i64 y.g]) rfl (by kernel_rfl) (by kernel_rfl) (by kernel_rfl) (fun _ _ _ h => h) (Or.inl ⟨by rfl, by intro Y hSw; have x0 := hSw.x.cell 0 rfl; have x1 := hSw.x.cell 1 rfl; go_simp⟩) (by assumption) ?_
  try simp only [Act.put, List.getElem_toArray, List.getElem_cons_zero, List.getElem_cons_succ, List.setIfInBounds_toArray, List.set_cons_zero, List.set_cons_succ]
  refine wpAnyH_take (i := 3) (v := .agg #[.int .i64 y.s, .int .i64 y.g]) rfl (by kernel_rfl) (by kernel_rfl) (by kernel_rfl) (fun _ _ _ h => h) (Or.inl ⟨by rfl, by intro Y hSw; have x0 := hSw.z.cell 0 rfl; have x1 := hSw.z.cell 1 rfl; go_simp⟩) (by assumption) ?_
  try simp only [Act.put, List.getElem_toArray, List.getElem_cons_zero, List.getElem_cons_succ, List.setIfInBounds_toArray, List.set_cons_zero, List.set_cons_succ]
  refine wpAnyH_take (i := 4) (v := ?_) rfl (by kernel_rfl) (by kernel_rfl) (by kernel_rfl) (fun _ _ _ h => h) (Or.inl ⟨by rfl, ?_⟩) (by assumption) ?_
  rotate_left
  · (intro Y hSw; (try dsimp only at hSw); obtain ⟨hS0, hS1, hS2⟩ := hSw; go_simp; try with_reducible rfl)
  try simp only [Act.put, List.getElem_toArray, List.getElem_cons_zero, List.getElem_cons_succ, List.setIfInBounds_toArray, List.set_cons_zero, List.set_cons_succ]
  refine wpAnyH_take (i := 5) (v := ?_) rfl (by kernel_rfl) (by kernel_rfl) (by kernel_rfl) (fun _ _ _ h => h) (Or.inl ⟨by rfl, ?_⟩) (by assumption) ?_
  rotate_left
  · (intro Y hSw; (try dsimp only at hSw); obtain ⟨hS0, hS1, hS2⟩ := hSw; go_simp; try with_reducible rfl)
  try simp only [Act.put, List.getElem_toArray, List.getElem_cons_zero, List.getElem_cons_succ, List.setIfInBounds_toArray, List.set_cons_zero, List.set_cons_succ]
  refine wpAnyH_take (i := 6) (v := ?_) rfl (by kernel_rfl) (by kernel_rfl) (by kernel_rfl) (fun _ _ _ h => h) (Or.inl ⟨by rfl, ?_⟩) (by assumption) ?_
  rotate_left
  · (intro Y hSw; (try dsimp only at hSw); obtain ⟨hS0, hS1, hS2⟩ := hSw; go_simp; try with_reducible rfl)
  try simp only [Act.put, List.getElem_toArray, List.getElem_cons_zero, List.getElem_cons_succ, List.setIfInBounds_toArray, List.set_cons_zero, List.set_cons_succ]
  refine wpAnyH_take (i := 8) (v := ?_) rfl (by kernel_rfl) (by kernel_rfl) (by kernel_rfl) (fun _ _ _ h => h) (Or.inl ⟨by rfl, ?_⟩) (by assumption) ?_
  rotate_left
  · (intro Y hSw; (try dsimp only at hSw); obtain ⟨hS0, hS1, hS2⟩ := hSw; go_simp; try with_reducible rfl)
  try simp only [Act.put, List.getElem_toArray, List.getElem_cons_zero, List.getElem_cons_succ, List.setIfInBounds_toArray, List.set_cons_zero, List.set_cons_succ]
  refine wpAnyH_ready (rs := [7]) (by kernel_rfl) (by simp) ?_
  refine AllReadyH.cons rfl (fun K hK => ?_) AllReadyH.nil
  go_simp
  refine (num_calls _ _).mono ?_; rintro e _ ⟨rfl, rfl⟩
  go_simp
  refine hK.out _ _ (hA5) (fun hHeld => ?_)
  clear hK K
  try simp only [Act.put, List.getElem_toArray, List.getElem_cons_zero, List.getElem_cons_succ, List.setIfInBounds_toArray, List.set_cons_zero, List.set_cons_succ]
  refine wpAnyH_take (i := 9) (v := ?_) rfl (by kernel_rfl) (by kernel_rfl) (by kernel_rfl) (fun _ _ _ h => h) (Or.inl ⟨by rfl, ?_⟩) (by assumption) ?_
  rotate_left
  · (intro Y hSw; (try dsimp only at hSw); obtain ⟨hS0, hS1, hS2⟩ := hSw; go_simp; try with_reducible rfl)
  try simp only [Act.put, List.getElem_toArray, List.getElem_cons_zero, List.getElem_cons_succ, List.setIfInBounds_toArray, List.set_cons_zero, List.set_cons_succ]
  refine wpAnyH_take (i := 10) (v := ?_) rfl (by kernel_rfl) (by kernel_rfl) (by kernel_rfl) (fun _ _ _ h => h) (Or.inl ⟨by rfl, ?_⟩) (by assumption) ?_
  rotate_left
  · (intro Y hSw; (try dsimp only at hSw); obtain ⟨hS0, hS1, hS2⟩ := hSw; go_simp; try with_reducible rfl)
  try simp only [Act.put, List.getElem_toArray, List.getElem_cons_zero, List.getElem_cons_succ, List.setIfInBounds_toArray, List.set_cons_zero, List.set_cons_succ]
  refine wpAnyH_take (i := 11) (v := ?_) rfl (by kernel_rfl) (by kernel_rfl) (by kernel_rfl) (fun _ _ _ h => h) (Or.inl ⟨by rfl, ?_⟩) (by assumption) ?_
  rotate_left
  · (intro Y hSw; (try dsimp only at hSw); obtain ⟨hS0, hS1, hS2⟩ := hSw; go_simp; try with_reducible rfl)
  try simp only [Act.put, List.getElem_toArray, List.getElem_cons_zero, List.getElem_cons_succ, List.setIfInBounds_toArray, List.set_cons_zero, List.set_cons_succ]
  refine wpAnyH_ready (rs := [12]) (by kernel_rfl) (by simp) ?_
  refine AllReadyH.cons rfl (fun K hK => ?_) AllReadyH.nil
  rw [if_pos (by rfl)]
  refine wp_storeB ty24 _ _ rfl (s + 1 + 1) (refV P1 (hsT T1)) rfl rfl hx4.o rfl HSZ1.out (refV_one _ _) ?_
  have hO6 := hx4.o.whole (refV P1 (hsT T1)) (HSZ1.out.trans rfl)
  have hD6 := hD4.setO (refV P1 (hsT T1)).toList 0 (show b ≠ s + 1 + 1 by omega) (show m ≠ s + 1 + 1 by omega)
  have kc6 := chg2_set kc4 (show w.heap.size ≤ s + 1 + 1 by rw [HS.out]; omega) (refV P1 (hsT T1)).toList 0
  refine hK.out _ _ (hA5.set (refV P1 (hsT T1)).toList 0 (by omega) (by omega) (by omega)) (fun hHeld => ?_)
  clear hK K
  try simp only [Act.put, List.getElem_toArray, List.getElem_cons_zero, List.getElem_cons_succ, List.setIfInBounds_toArray, List.set_cons_zero, List.set_cons_succ]
  refine wpAnyH_take (i := 13) (v := ?_) rfl (by kernel_rfl) (by kernel_rfl) (by kernel_rfl) (fun _ _ _ h => h) (Or.inl ⟨by rfl, ?_⟩) (by assumption) ?_
  rotate_left
  · (intro Y hSw; (try dsimp only at hSw); obtain ⟨hS0, hS1, hS2⟩ := hSw; go_simp; try with_reducible rfl)
  try simp only [Act.put, List.getElem_toArray, List.getElem_cons_zero, List.getElem_cons_succ, List.setIfInBounds_toArray, List.set_cons_zero, List.set_cons_succ]
  refine wpAnyH_done (by kernel_rfl) ?_ _
  rw [onlyN_normal]
  go_wp2_with fail
  exact ret_m3 rfl (s + 1 + 1) rfl hO6 HSZ1.out rfl ⟨by dsimp only; rw [HT1.out, ← HP1.out]; rfl, by rw [show binT P T xt ⟨xs, xg⟩ = T1 from HT1.out]; exact hD6, kc6⟩
end Go.Proofs.Ytchknegenaoliaa
