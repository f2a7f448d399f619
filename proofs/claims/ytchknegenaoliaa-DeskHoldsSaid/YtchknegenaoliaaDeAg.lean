/-
  Package pinfoldlaw21: act, a tenant destroyed, a question, a copy. Conditions: what stands at a desk.
-/
import Derived.Test.YtchknegenaoliaaDeAf
namespace Go.Proofs.Ytchknegenaoliaa
open Go.RowKit
attribute [local go_sem] Oper.semAt_some
set_option maxHeartbeats 1000000
set_option maxRecDepth 4000

structure A1 (g1 : Nat) (R1 : Array Value) (Y : World) : Prop where
  r : Blk Y g1 R1 52
theorem act1_ok {w : World} {b m : Nat} {n : Int} {P : List Ten} {T : Thr} (hD : DkAt w b m P T) (hg : Good n P T) (x : ActD) (ha : x.a = 1) :
    Calls Try.prog 17 #[.pointer (some ⟨b, 0, none⟩), .agg (refV P (hsT T)), .agg (actC x)] w fun e w' => ActR w b m (desP P x.h) (desT P T x.h) e w' b m := by
  obtain ⟨w0, hw0⟩ : ∃ w0, ((w.alloc (.cells (refV P (hsT T)) 52)).alloc (.cells (actC x) 30)).alloc (.cells zerV 52) = w0 := ⟨_, rfl⟩
  have k0 : Below w.heap.size w w0 := by rw [← hw0]; exact (((Below.refl _ w).alloc (Nat.le_refl _) _).alloc (by simp) _).alloc (by simp; omega) _
  have hx : AcS w.heap.size (refV P (hsT T)) x w0 := ⟨by rw [← hw0]; exact ((Blk.new w _ _).alloc _).alloc _, by rw [← hw0]; exact (Blk.newAt _ _ _ (by simp)).alloc _, by rw [← hw0]; exact Blk.newAt _ _ _ (by simp)⟩
  have hD0 := hD.step k0
  have hbs := hD.blk.lt
  have hms := hD.mp.lt
  have hz0 : w.heap.size + 3 ≤ w0.heap.size := by have := hx.o.lt; omega
  have hw0' : ((w.alloc (.cells (refV P (hsT T)) 52)).alloc (.cells (actC x) 30)).alloc (.cells #[.int .i64 0, .bool false, .int .i64 0, .int .i64 0, .int .i64 0, .bool false, .int .i64 0, .int .i64 0, .int .i64 0, .bool false, .int .i64 0, .int .i64 0, .int .i64 0, .bool false, .int .i64 0, .int .i64 0, .int .i64 0, .int .i64 0, .int .i64 0, .int .i64 0, .int .i64 0, .int .i64 0, .int .i64 0, .int .i64 0] 52) = w0 := hw0
  obtain ⟨s, hs⟩ : ∃ s, w.heap.size = s := ⟨_, rfl⟩
  have HS := Lib.hid hs
  have kc : Chg2 b m w w0 := Chg2.of_below k0
  rw [hs] at hx hbs hms hz0
  have hL := hsT_L hg.len T
  have HSZ := Lib.hid hL.size
  have HL := Lib.hid hL
  have HG := Lib.hid hg
  clear hw0 hL hD k0
  obtain ⟨xa, xt, xq, xf, ⟨xs, xg⟩⟩ := x
  dsimp only at ha hw0' ⊢
  have c0 : w0.cell? ⟨s + 1, 0, none⟩ = some (.int .i64 xa) := hx.x.cell 0 rfl
  have c1 : w0.cell? ⟨s + 1, 1, none⟩ = some (.int .i64 xt) := hx.x.cell 1 rfl
  have c2 : w0.cell? ⟨s + 1, 2, none⟩ = some (.int .i64 xq) := hx.x.cell 2 rfl
  have c3 : w0.cell? ⟨s + 1, 3, none⟩ = some (.int .i64 xf) := hx.x.cell 3 rfl
  have c4 : w0.cell? ⟨s + 1, 4, none⟩ = some (.int .i64 xs) := hx.x.cell 4 rfl
  have c5 : w0.cell? ⟨s + 1, 5, none⟩ = some (.int .i64 xg) := hx.x.cell 5 rfl
  subst ha
  go_enter Try.func17, Try.ntmps17
  go_wp2_with (first | refine wpList_loadB ty24 rfl _ rfl s rfl hx.r HSZ.out ?_)
  clear hw0' c0 c1 c2 c3 c4 c5 hs
  refine (rDestroy_ok HL.out ⟨xs, xg⟩ w0).mono ?_; rintro e w1 ⟨v, rfl, ho1, k1⟩
  have hx1 := hx.step k1
  have hD1 := hD0.step k1
  have kc1 := kc.trans (Chg2.of_below k1)
  have hz1 := k1.size
  rw [des_hs HG.out]
  obtain ⟨P1, hP1⟩ : ∃ P1, desP P ⟨xs, xg⟩ = P1 := ⟨_, rfl⟩
  obtain ⟨T1, hT1⟩ : ∃ T1, desT P T ⟨xs, xg⟩ = T1 := ⟨_, rfl⟩
  obtain ⟨er, her⟩ : ∃ er, chkE P ⟨xs, xg⟩ = er := ⟨_, rfl⟩
  have hg1 := hg.des ⟨xs, xg⟩
  rw [hP1, hT1] at hg1
  rw [hP1, hT1, her]
  have HP1 := Lib.hid hP1
  have HT1 := Lib.hid hT1
  have HE := Lib.hid her
  have HSZ1 := Lib.hid (hsT_L hg1.len T1).size
  obtain ⟨ys, hys⟩ : ∃ ys, rThr P (hsT T) ⟨xs, xg⟩ = ys := ⟨_, rfl⟩
  rw [hys] at ho1
  have hty := thr_eq HG.out ⟨xs, xg⟩
  rw [hys] at hty
  have hyl : ys.length < 1000000 := by
    have h1 : ys.length ≤ 4 := by
      rw [← hys]
      unfold rThr
      split
      · exact rThrTo_len _ _ 4
      · exact Nat.zero_le _
    omega
  have HTY := Lib.hid hty
  have HO1 := Lib.hid ho1
  have HYL := Lib.hid hyl
  obtain ⟨a1, q1, rfl, _⟩ := (RowAt.of_owns ho1 (Nat.le_refl _)).len
  clear hP1 her k1 hx hD0 kc hg1 hT1 hty ho1 hyl hys
  go_wp2_with (first | (refine wpList_storeB (old := zerV) (t' := 52) ty24 rfl _ _ rfl w1.heap.size (refV P1 (hsT T1)) rfl rfl (Blk.new w1 _ _) rfl HSZ1.out (refV_one _ _) ?_; generalize hw2 : World.setCells _ w1.heap.size 0 _ = w2; have hk2 : Below w1.heap.size w1 w2 := (by rw [← hw2]; exact bel_setCells ((Below.refl _ w1).alloc (Nat.le_refl _) _) (Nat.le_refl _) _ _); have hN1 : Blk w2 w1.heap.size (refV P1 (hsT T1)) 52 := (by rw [← hw2]; exact (Blk.new w1 _ _).whole _ (HSZ1.out.trans rfl)); have hx2 := hx1.step hk2; have c0 : w2.cell? ⟨s + 1, 0, none⟩ = some (.int .i64 _) := hx2.x.cell 0 rfl; have c4 : w2.cell? ⟨s + 1, 4, none⟩ = some (.int .i64 xs) := hx2.x.cell 4 rfl; have c5 : w2.cell? ⟨s + 1, 5, none⟩ = some (.int .i64 xg) := hx2.x.cell 5 rfl; clear hw2))
  have hD2 := hD1.step hk2
  have kc2 := kc1.trans (Chg2.of_below hk2)
  have hz2 := hk2.size
  have HO2 := Lib.hid (owns_below HO1.out hk2 (Nat.le_refl _))
  have hnl := hN1.lt
  refine (Destroy_ok hD2 HG.out.srt HG.out.key ⟨xs, xg⟩).mono ?_; rintro e w3 ⟨u, rfl, ho3, hD3, kch⟩
  rw [HE.out]
  rw [HP1.out, HT1.out] at hD3
  have hx3 := hx2.chg2 kch hbs hms
  have hN13 := kch.blk hN1 (show w1.heap.size ≠ b by omega) (show w1.heap.size ≠ m by omega)
  have kc3 := kc2.trans kch
  have hz3 := kch.size
  have hr1 : RowAt w3.heap.size w3 (.slice a1 ys.length q1) ys.length (intVals .i64 ys) := by
    have h1 : w3.ownsRow w0.heap.size 3 1 (.slice a1 ys.length q1) ys.length (intVals .i64 ys) := by
      refine ⟨HO2.out.1, ?_⟩
      rcases HO2.out.2 with hn | ⟨g, cap, cur, h2, hg1, hg2, rest⟩
      · exact .inl hn
      · exact .inr ⟨g, cap, cur, h2, hg1, (kch.block g (Array.getElem?_eq_some_iff.1 hg2).1 (by omega) (by omega)).trans hg2, rest⟩
    exact RowAt.of_owns h1 (Nat.le_refl _)
  have hr2 : RowAt w3.heap.size w3 u (thO P T ⟨xs, xg⟩).length (keyV (thO P T ⟨xs, xg⟩)) := RowAt.of_owns ho3 (Nat.le_refl _)
  have hkl : (thO P T ⟨xs, xg⟩).length = ys.length := by rw [HTY.out]; simp
  have hkv : keyV (thO P T ⟨xs, xg⟩) = intVals .i64 ys := by rw [HTY.out]; rfl
  rw [hkl, hkv] at hr2
  have HR1 := Lib.hid hr1
  have HR2 := Lib.hid hr2
  clear hN1 hx2 hD2 kc2 kch hk2 hx1 hD1 kc1 ho3 hr1 hr2 hkl hkv c0 c4 c5
  go_wp2_with fail
  refine wp_onlyN ?_
  have kd := (Below.refl w3.heap.size w3).drew
  have hA5 : A1 w1.heap.size (refV P1 (hsT T1)) w3.drew := ⟨hN13.below kd hN13.lt⟩
  have hx4 := hx3.step kd
  have hD4 := hD3.step kd
  have kc4 := kc3.trans (Chg2.of_below kd)
  have HR14 := Lib.hid ((HR1.out.below kd (Nat.le_refl _)).mono kd.size)
  have HR24 := Lib.hid ((HR2.out.below kd (Nat.le_refl _)).mono kd.size)
  refine wp_region_held_drew (S := A1 w1.heap.size (refV P1 (hsT T1))) (by kernel_rfl) hA5 (fun hHeld => ?_)
  change wpAnyH _ _ _ _ _ _ _ _ w3.drew
  have hz4 : w3.heap.size = w3.drew.heap.size := rfl
  rw [hz4] at hz3
  clear kd hN13 hx3 hD3 kc3 HR1 HR2 hz4
  generalize w3.drew = w5 at hA5 hx4 hD4 kc4 hHeld HR14 HR24 hz3 ⊢
  refine wpAnyH_take (i := 0) (v := ?_) rfl (by kernel_rfl) (by kernel_rfl) (by kernel_rfl) (fun _ _ _ h => h) (Or.inl ⟨by rfl, ?_⟩) (by assumption) ?_
  rotate_left
  · (intro Y hSw; (try dsimp only at hSw); obtain hS0 := hSw; go_simp; try with_reducible rfl)
  try simp only [Act.put, List.getElem_toArray, List.getElem_cons_zero, List.getElem_cons_succ, List.setIfInBounds_toArray, List.set_cons_zero, List.set_cons_succ]
  refine wpAnyH_take (i := 1) (v := .agg (refV P1 (hsT T1))) rfl (by kernel_rfl) (by kernel_rfl) (by kernel_rfl) (fun _ _ _ h => h) (Or.inl ⟨by rfl, fun Y hSw => exec_loadB ty24 _ rfl w1.heap.size rfl hSw.r HSZ1.out⟩) (by assumption) ?_
  try simp only [Act.put, List.getElem_toArray, List.getElem_cons_zero, List.getElem_cons_succ, List.setIfInBounds_toArray, List.set_cons_zero, List.set_cons_succ]
  refine wpAnyH_take (i := 2) (v := ?_) rfl (by kernel_rfl) (by kernel_rfl) (by kernel_rfl) (fun _ _ _ h => h) (Or.inl ⟨by rfl, ?_⟩) (by assumption) ?_
  rotate_left
  · (intro Y hSw; (try dsimp only at hSw); obtain hS0 := hSw; go_simp; try with_reducible rfl)
  try simp only [Act.put, List.getElem_toArray, List.getElem_cons_zero, List.getElem_cons_succ, List.setIfInBounds_toArray, List.set_cons_zero, List.set_cons_succ]
  refine wpAnyH_take (i := 3) (v := ?_) rfl (by kernel_rfl) (by kernel_rfl) (by kernel_rfl) (fun _ _ _ h => h) (Or.inl ⟨by rfl, ?_⟩) (by assumption) ?_
  rotate_left
  · (intro Y hSw; (try dsimp only at hSw); obtain hS0 := hSw; go_simp; try with_reducible rfl)
  try simp only [Act.put, List.getElem_toArray, List.getElem_cons_zero, List.getElem_cons_succ, List.setIfInBounds_toArray, List.set_cons_zero, List.set_cons_succ]
  refine wpAnyH_ready (rs := [4]) (by kernel_rfl) (by simp) ?_
  refine AllReadyH.cons rfl (fun K hK => ?_) AllReadyH.nil
  go_simp
  refine (ints_ok _ _ ys _ rfl w5.heap.size w5 (Nat.le_refl _) HYL.out HR24.out HR14.out).mono ?_; rintro e w6 ⟨rfl, k6⟩
  replace hA5 : A1 w1.heap.size (refV P1 (hsT T1)) w6 := ⟨hA5.r.below k6 hA5.r.lt⟩
  replace hx4 := hx4.step k6
  replace hD4 := hD4.step k6
  replace kc4 := kc4.trans (Chg2.of_below k6)
  go_simp
  refine hK.out _ _ (hA5) (fun hHeld => ?_)
  clear hK K
  try simp only [Act.put, List.getElem_toArray, List.getElem_cons_zero, List.getElem_cons_succ, List.setIfInBounds_toArray, List.set_cons_zero, List.set_cons_succ]
  clear k6 HR14 HR24
  refine wpAnyH_take (i := 5) (v := ?_) rfl (by kernel_rfl) (by kernel_rfl) (by kernel_rfl) (fun _ _ _ h => h) (Or.inl ⟨by rfl, ?_⟩) (by assumption) ?_
  rotate_left
  · (intro Y hSw; (try dsimp only at hSw); obtain hS0 := hSw; go_simp; try with_reducible rfl)
  try simp only [Act.put, List.getElem_toArray, List.getElem_cons_zero, List.getElem_cons_succ, List.setIfInBounds_toArray, List.set_cons_zero, List.set_cons_succ]
  refine wpAnyH_take (i := 6) (v := ?_) rfl (by kernel_rfl) (by kernel_rfl) (by kernel_rfl) (fun _ _ _ h => h) (Or.inl ⟨by rfl, ?_⟩) (by assumption) ?_
  rotate_left
  · (intro Y hSw; (try dsimp only at hSw); obtain hS0 := hSw; go_simp; try with_reducible rfl)
  try simp only [Act.put, List.getElem_toArray, List.getElem_cons_zero, List.getElem_cons_succ, List.setIfInBounds_toArray, List.set_cons_zero, List.set_cons_succ]
  refine wpAnyH_take (i := 8) (v := ?_) rfl (by kernel_rfl) (by kernel_rfl) (by kernel_rfl) (fun _ _ _ h => h) (Or.inl ⟨by rfl, ?_⟩) (by assumption) ?_
  rotate_left
  · (intro Y hSw; (try dsimp only at hSw); obtain hS0 := hSw; go_simp; try with_reducible rfl)
  try simp only [Act.put, List.getElem_toArray, List.getElem_cons_zero, List.getElem_cons_succ, List.setIfInBounds_toArray, List.set_cons_zero, List.set_cons_succ]
  refine wpAnyH_ready (rs := [7]) (by kernel_rfl) (by simp) ?_
  refine AllReadyH.cons rfl (fun K hK => ?_) AllReadyH.nil
  go_simp
  refine (num_calls _ _).mono ?_; rintro e _ ⟨rfl, rfl⟩
  go_simp
  refine hK.out _ _ (hA5) (fun hHeld => ?_)
  clear hK K
  try simp only [Act.put, List.getElem_toArray, List.getElem_cons_zero, List.getElem_cons_succ, List.setIfInBounds_toArray, List.set_cons_zero, List.set_cons_succ]
  refine wpAnyH_take (i := 9) (v := ?_) rfl (by kernel_rfl) (by kernel_rfl) (by kernel_rfl) (fun _ _ _ h => h) (Or.inl ⟨by rfl, ?_⟩) (by assumption) ?_
  rotate_left
  · (intro Y hSw; (try dsimp only at hSw); obtain hS0 := hSw; go_simp; try with_reducible rfl)
  try simp only [Act.put, List.getElem_toArray, List.getElem_cons_zero, List.getElem_cons_succ, List.setIfInBounds_toArray, List.set_cons_zero, List.set_cons_succ]
  refine wpAnyH_take (i := 10) (v := ?_) rfl (by kernel_rfl) (by kernel_rfl) (by kernel_rfl) (fun _ _ _ h => h) (Or.inl ⟨by rfl, ?_⟩) (by assumption) ?_
  rotate_left
  · (intro Y hSw; (try dsimp only at hSw); obtain hS0 := hSw; go_simp; try with_reducible rfl)
  try simp only [Act.put, List.getElem_toArray, List.getElem_cons_zero, List.getElem_cons_succ, List.setIfInBounds_toArray, List.set_cons_zero, List.set_cons_succ]
  refine wpAnyH_take (i := 11) (v := ?_) rfl (by kernel_rfl) (by kernel_rfl) (by kernel_rfl) (fun _ _ _ h => h) (Or.inl ⟨by rfl, ?_⟩) (by assumption) ?_
  rotate_left
  · (intro Y hSw; (try dsimp only at hSw); obtain hS0 := hSw; go_simp; try with_reducible rfl)
  try simp only [Act.put, List.getElem_toArray, List.getElem_cons_zero, List.getElem_cons_succ, List.setIfInBounds_toArray, List.set_cons_zero, List.set_cons_succ]
  refine wpAnyH_ready (rs := [12]) (by kernel_rfl) (by simp) ?_
  refine AllReadyH.cons rfl (fun K hK => ?_) AllReadyH.nil
  rw [if_pos (by rfl)]
  refine wp_storeB ty24 _ _ rfl (s + 1 + 1) (refV P1 (hsT T1)) rfl rfl hx4.o rfl HSZ1.out (refV_one _ _) ?_
  have hO6 := hx4.o.whole (refV P1 (hsT T1)) (HSZ1.out.trans rfl)
  have hD6 := hD4.setO (refV P1 (hsT T1)).toList 0 (show b ≠ s + 1 + 1 by omega) (show m ≠ s + 1 + 1 by omega)
  have kc6 := chg2_set kc4 (show w.heap.size ≤ s + 1 + 1 by rw [HS.out]; omega) (refV P1 (hsT T1)).toList 0
  refine hK.out _ _ (⟨hA5.r.setCellsO (refV P1 (hsT T1)).toList 0 (by omega)⟩) (fun hHeld => ?_)
  clear hK K
  try simp only [Act.put, List.getElem_toArray, List.getElem_cons_zero, List.getElem_cons_succ, List.setIfInBounds_toArray, List.set_cons_zero, List.set_cons_succ]
  refine wpAnyH_take (i := 13) (v := ?_) rfl (by kernel_rfl) (by kernel_rfl) (by kernel_rfl) (fun _ _ _ h => h) (Or.inl ⟨by rfl, ?_⟩) (by assumption) ?_
  rotate_left
  · (intro Y hSw; (try dsimp only at hSw); obtain hS0 := hSw; go_simp; try with_reducible rfl)
  try simp only [Act.put, List.getElem_toArray, List.getElem_cons_zero, List.getElem_cons_succ, List.setIfInBounds_toArray, List.set_cons_zero, List.set_cons_succ]
  refine wpAnyH_done (by kernel_rfl) ?_ _
  rw [onlyN_normal]
  go_wp2_with fail
  exact ret_m3 rfl (s + 1 + 1) rfl hO6 HSZ1.out rfl ⟨by dsimp only; rw [HP1.out, HT1.out]; rfl, by rw [show desP P ⟨xs, xg⟩ = P1 from HP1.out, show desT P T ⟨xs, xg⟩ = T1 from HT1.out]; exact hD6, kc6⟩
structure A4 (s b m : Nat) (P : List Ten) (T : Thr) (x : ActD) (Y : World) : Prop where
  d : DkAt Y b m P T
  i : AcS s (refV P (hsT T)) x Y
theorem A4.step {s b m : Nat} {P : List Ten} {T : Thr} {x : ActD} {Y Z : World} (h : A4 s b m P T x Y) (k : Below Y.heap.size Y Z) : A4 s b m P T x Z := ⟨h.d.step k, h.i.step k⟩
structure A9 (s : Nat) (R : Array Value) (x : ActD) (Y : World) : Prop where
  r : Blk Y s R 52
  x : Blk Y (s + 1) (actC x) 30
theorem A9.set {s g : Nat} {R : Array Value} {x : ActD} {Y : World} (h : A9 s R x Y) (vs : List Value) (o : Nat) (h1 : s ≠ g) (h2 : s + 1 ≠ g) : A9 s R x (Y.setCells g o vs) := ⟨h.r.setCellsO vs o h1, h.x.setCellsO vs o h2⟩
theorem AcS.a9 {s : Nat} {R : Array Value} {x : ActD} {Y : World} (h : AcS s R x Y) : A9 s R x Y := ⟨h.r, h.x⟩
theorem act4_ok {w : World} {b m : Nat} {n : Int} {P : List Ten} {T : Thr} (hD : DkAt w b m P T) (hg : Good n P T) (x : ActD) (ha : x.a = 4) :
    Calls Try.prog 17 #[.pointer (some ⟨b, 0, none⟩), .agg (refV P (hsT T)), .agg (actC x)] w fun e w' => ActR w b m P T e w' b m := by
  obtain ⟨w0, hw0⟩ : ∃ w0, ((w.alloc (.cells (refV P (hsT T)) 52)).alloc (.cells (actC x) 30)).alloc (.cells zerV 52) = w0 := ⟨_, rfl⟩
  have k0 : Below w.heap.size w w0 := by rw [← hw0]; exact (((Below.refl _ w).alloc (Nat.le_refl _) _).alloc (by simp) _).alloc (by simp; omega) _
  have hx : AcS w.heap.size (refV P (hsT T)) x w0 := ⟨by rw [← hw0]; exact ((Blk.new w _ _).alloc _).alloc _, by rw [← hw0]; exact (Blk.newAt _ _ _ (by simp)).alloc _, by rw [← hw0]; exact Blk.newAt _ _ _ (by simp)⟩
  have hD0 := hD.step k0
  have hbs := hD.blk.lt
  have hms := hD.mp.lt
  have hz0 : w.heap.size + 3 ≤ w0.heap.size := by have := hx.o.lt; omega
  have hw0' : ((w.alloc (.cells (refV P (hsT T)) 52)).alloc (.cells (actC x) 30)).alloc (.cells #[.int .i64 0, .bool false, .int .i64 0, .int .i64 0, .int .i64 0, .bool false, .int .i64 0, .int .i64 0, .int .i64 0, .bool false, .int .i64 0, .int .i64 0, .int .i64 0, .bool false, .int .i64 0, .int .i64 0, .int .i64 0, .int .i64 0, .int .i64 0, .int .i64 0, .int .i64 0, .int .i64 0, .int .i64 0, .int .i64 0] 52) = w0 := hw0
  obtain ⟨s, hs⟩ : ∃ s, w.heap.size = s := ⟨_, rfl⟩
  have HS := Lib.hid hs
  have kc : Chg2 b m w w0 := Chg2.of_below k0
  rw [hs] at hx hbs hms hz0
  have hL := hsT_L hg.len T
  have HSZ := Lib.hid hL.size
  have HL := Lib.hid hL
  have HG := Lib.hid hg
  clear hw0 hL hD k0
  obtain ⟨xa, xt, xq, xf, ⟨xs, xg⟩⟩ := x
  dsimp only at ha hw0' ⊢
  have c0 : w0.cell? ⟨s + 1, 0, none⟩ = some (.int .i64 xa) := hx.x.cell 0 rfl
  have c1 : w0.cell? ⟨s + 1, 1, none⟩ = some (.int .i64 xt) := hx.x.cell 1 rfl
  have c2 : w0.cell? ⟨s + 1, 2, none⟩ = some (.int .i64 xq) := hx.x.cell 2 rfl
  have c3 : w0.cell? ⟨s + 1, 3, none⟩ = some (.int .i64 xf) := hx.x.cell 3 rfl
  have c4 : w0.cell? ⟨s + 1, 4, none⟩ = some (.int .i64 xs) := hx.x.cell 4 rfl
  have c5 : w0.cell? ⟨s + 1, 5, none⟩ = some (.int .i64 xg) := hx.x.cell 5 rfl
  subst ha
  go_enter Try.func17, Try.ntmps17
  go_wp2_with fail
  clear hw0' c0 c1 c2 c3 c4 c5 hs
  refine wp_onlyN ?_
  have kd := (Below.refl w0.heap.size w0).drew
  have hA := (A4.mk hD0 hx).step kd
  have kc4 := kc.trans (Chg2.of_below kd)
  refine wp_region_held_drew (S := A9 s (refV P (hsT T)) ⟨4, xt, xq, xf, ⟨xs, xg⟩⟩) (by kernel_rfl) hA.i.a9 (fun hHeld => ?_)
  change wpAnyH _ _ _ _ _ _ _ _ w0.drew
  generalize w0.drew = w5 at hA kc4 hHeld ⊢
  clear kd hD0 hx kc
  refine wpAnyH_take (i := 0) (v := ?_) rfl (by kernel_rfl) (by kernel_rfl) (by kernel_rfl) (fun _ _ _ h => h) (Or.inl ⟨by rfl, ?_⟩) (by assumption) ?_
  rotate_left
  · (intro Y hSw; (try dsimp only at hSw); obtain ⟨hS0, hS1⟩ := hSw; go_simp; try with_reducible rfl)
  try simp only [Act.put, List.getElem_toArray, List.getElem_cons_zero, List.getElem_cons_succ, List.setIfInBounds_toArray, List.set_cons_zero, List.set_cons_succ]
  refine wpAnyH_take (i := 1) (v := .agg (refV P (hsT T))) rfl (by kernel_rfl) (by kernel_rfl) (by kernel_rfl) (fun _ _ _ h => h) (Or.inl ⟨by rfl, fun Y hSw => exec_loadB ty24 _ rfl s rfl hSw.r HSZ.out⟩) (by assumption) ?_
  try simp only [Act.put, List.getElem_toArray, List.getElem_cons_zero, List.getElem_cons_succ, List.setIfInBounds_toArray, List.set_cons_zero, List.set_cons_succ]
  refine wpAnyH_take (i := 2) (v := ?_) rfl (by kernel_rfl) (by kernel_rfl) (by kernel_rfl) (fun _ _ _ h => h) (Or.inl ⟨by rfl, ?_⟩) (by assumption) ?_
  rotate_left
  · (intro Y hSw; (try dsimp only at hSw); obtain ⟨hS0, hS1⟩ := hSw; go_simp; try with_reducible rfl)
  try simp only [Act.put, List.getElem_toArray, List.getElem_cons_zero, List.getElem_cons_succ, List.setIfInBounds_toArray, List.set_cons_zero, List.set_cons_succ]
  refine wpAnyH_take (i := 3) (v := .agg (refV P (hsT T))) rfl (by kernel_rfl) (by kernel_rfl) (by kernel_rfl) (fun _ _ _ h => h) (Or.inl ⟨by rfl, fun Y hSw => exec_loadB ty24 _ rfl s rfl hSw.r HSZ.out⟩) (by assumption) ?_
  try simp only [Act.put, List.getElem_toArray, List.getElem_cons_zero, List.getElem_cons_succ, List.setIfInBounds_toArray, List.set_cons_zero, List.set_cons_succ]
  refine wpAnyH_take (i := 4) (v := ?_) rfl (by kernel_rfl) (by kernel_rfl) (by kernel_rfl) (fun _ _ _ h => h) (Or.inl ⟨by rfl, ?_⟩) (by assumption) ?_
  rotate_left
  · (intro Y hSw; (try dsimp only at hSw); obtain ⟨hS0, hS1⟩ := hSw; go_simp; try with_reducible rfl)
  try simp only [Act.put, List.getElem_toArray, List.getElem_cons_zero, List.getElem_cons_succ, List.setIfInBounds_toArray, List.set_cons_zero, List.set_cons_succ]
  refine wpAnyH_take (i := 5) (v := .agg #[.int .i64 xs, .int .i64 xg]) rfl (by kernel_rfl) (by kernel_rfl) (by kernel_rfl) (fun _ _ _ h => h) (Or.inl ⟨by rfl, by intro Y hSw; have x0 : Y.cell? ⟨s + 1, 4, none⟩ = some (.int .i64 xs) := hSw.x.cell 4 rfl; have x1 : Y.cell? ⟨s + 1, 5, none⟩ = some (.int .i64 xg) := hSw.x.cell 5 rfl; go_simp⟩) (by assumption) ?_
  try simp only [Act.put, List.getElem_toArray, List.getElem_cons_zero, List.getElem_cons_succ, List.setIfInBounds_toArray, List.set_cons_zero, List.set_cons_succ]
  refine wpAnyH_ready (rs := [6]) (by kernel_rfl) (by simp) ?_
  refine AllReadyH.cons rfl (fun K hK => ?_) AllReadyH.nil
  go_simp
  refine (asked_all hA.d HG.out ⟨xs, xg⟩).mono ?_; rintro e w6 ⟨rfl, k6⟩
  replace hA := hA.step k6
  replace kc4 := kc4.trans (Chg2.of_below k6)
  go_simp
  refine hK.out _ _ (hA.i.a9) (fun hHeld => ?_)
  clear hK K
  try simp only [Act.put, List.getElem_toArray, List.getElem_cons_zero, List.getElem_cons_succ, List.setIfInBounds_toArray, List.set_cons_zero, List.set_cons_succ]
  clear k6
  refine wpAnyH_take (i := 7) (v := ?_) rfl (by kernel_rfl) (by kernel_rfl) (by kernel_rfl) (fun _ _ _ h => h) (Or.inl ⟨by rfl, ?_⟩) (by assumption) ?_
  rotate_left
  · (intro Y hSw; (try dsimp only at hSw); obtain ⟨hS0, hS1⟩ := hSw; go_simp; try with_reducible rfl)
  try simp only [Act.put, List.getElem_toArray, List.getElem_cons_zero, List.getElem_cons_succ, List.setIfInBounds_toArray, List.set_cons_zero, List.set_cons_succ]
  refine wpAnyH_ready (rs := [8]) (by kernel_rfl) (by simp) ?_
  refine AllReadyH.cons rfl (fun K hK => ?_) AllReadyH.nil
  rw [if_pos (by rfl)]
  refine wp_storeB ty24 _ _ rfl (s + 1 + 1) (refV P (hsT T)) rfl rfl hA.i.o rfl HSZ.out (refV_one _ _) ?_
  have hO6 := hA.i.o.whole (refV P (hsT T)) (HSZ.out.trans rfl)
  have hD6 := hA.d.setO (refV P (hsT T)).toList 0 (show b ≠ s + 1 + 1 by omega) (show m ≠ s + 1 + 1 by omega)
  have kc6 := chg2_set kc4 (show w.heap.size ≤ s + 1 + 1 by rw [HS.out]; omega) (refV P (hsT T)).toList 0
  refine hK.out _ _ (hA.i.a9.set (refV P (hsT T)).toList 0 (by omega) (by omega)) (fun hHeld => ?_)
  clear hK K
  try simp only [Act.put, List.getElem_toArray, List.getElem_cons_zero, List.getElem_cons_succ, List.setIfInBounds_toArray, List.set_cons_zero, List.set_cons_succ]
  refine wpAnyH_take (i := 9) (v := ?_) rfl (by kernel_rfl) (by kernel_rfl) (by kernel_rfl) (fun _ _ _ h => h) (Or.inl ⟨by rfl, ?_⟩) (by assumption) ?_
  rotate_left
  · (intro Y hSw; (try dsimp only at hSw); obtain ⟨hS0, hS1⟩ := hSw; go_simp; try with_reducible rfl)
  try simp only [Act.put, List.getElem_toArray, List.getElem_cons_zero, List.getElem_cons_succ, List.setIfInBounds_toArray, List.set_cons_zero, List.set_cons_succ]
  refine wpAnyH_done (by kernel_rfl) ?_ _
  rw [onlyN_normal]
  go_wp2_with fail
  exact ret_m3 rfl (s + 1 + 1) rfl hO6 HSZ.out rfl ⟨rfl, hD6, kc6⟩
theorem act5_ok {w : World} {b m : Nat} {n : Int} {P : List Ten} {T : Thr} (hD : DkAt w b m P T) (hg : Good n P T) (x : ActD) (ha : x.a ≠ 0 ∧ x.a ≠ 1 ∧ x.a ≠ 2 ∧ x.a ≠ 3 ∧ x.a ≠ 4) :
    Calls Try.prog 17 #[.pointer (some ⟨b, 0, none⟩), .agg (refV P (hsT T)), .agg (actC x)] w fun e w' => ∃ c mc, ActR w b m P T e w' c mc ∧ w.heap.size ≤ c ∧ w.heap.size ≤ mc ∧ Below w.heap.size w w' := by
  obtain ⟨w0, hw0⟩ : ∃ w0, ((w.alloc (.cells (refV P (hsT T)) 52)).alloc (.cells (actC x) 30)).alloc (.cells zerV 52) = w0 := ⟨_, rfl⟩
  have k0 : Below w.heap.size w w0 := by rw [← hw0]; exact (((Below.refl _ w).alloc (Nat.le_refl _) _).alloc (by simp) _).alloc (by simp; omega) _
  have hx : AcS w.heap.size (refV P (hsT T)) x w0 := ⟨by rw [← hw0]; exact ((Blk.new w _ _).alloc _).alloc _, by rw [← hw0]; exact (Blk.newAt _ _ _ (by simp)).alloc _, by rw [← hw0]; exact Blk.newAt _ _ _ (by simp)⟩
  have hD0 := hD.step k0
  have hbs := hD.blk.lt
  have hms := hD.mp.lt
  have hz0 : w.heap.size + 3 ≤ w0.heap.size := by have := hx.o.lt; omega
  have hw0' : ((w.alloc (.cells (refV P (hsT T)) 52)).alloc (.cells (actC x) 30)).alloc (.cells #[.int .i64 0, .bool false, .int .i64 0, .int .i64 0, .int .i64 0, .bool false, .int .i64 0, .int .i64 0, .int .i64 0, .bool false, .int .i64 0, .int .i64 0, .int .i64 0, .bool false, .int .i64 0, .int .i64 0, .int .i64 0, .int .i64 0, .int .i64 0, .int .i64 0, .int .i64 0, .int .i64 0, .int .i64 0, .int .i64 0] 52) = w0 := hw0
  obtain ⟨s, hs⟩ : ∃ s, w.heap.size = s := ⟨_, rfl⟩
  have HS := Lib.hid hs
  have kc : Chg2 b m w w0 := Chg2.of_below k0
  rw [hs] at hx hbs hms hz0
  have hL := hsT_L hg.len T
  have HSZ := Lib.hid hL.size
  have HL := Lib.hid hL
  have HG := Lib.hid hg
  clear hw0 hL hD
  obtain ⟨xa, xt, xq, xf, ⟨xs, xg⟩⟩ := x
  dsimp only at ha hw0' ⊢
  have c0 : w0.cell? ⟨s + 1, 0, none⟩ = some (.int .i64 xa) := hx.x.cell 0 rfl
  have c1 : w0.cell? ⟨s + 1, 1, none⟩ = some (.int .i64 xt) := hx.x.cell 1 rfl
  have c2 : w0.cell? ⟨s + 1, 2, none⟩ = some (.int .i64 xq) := hx.x.cell 2 rfl
  have c3 : w0.cell? ⟨s + 1, 3, none⟩ = some (.int .i64 xf) := hx.x.cell 3 rfl
  have c4 : w0.cell? ⟨s + 1, 4, none⟩ = some (.int .i64 xs) := hx.x.cell 4 rfl
  have c5 : w0.cell? ⟨s + 1, 5, none⟩ = some (.int .i64 xg) := hx.x.cell 5 rfl
  obtain ⟨h0, h1, h2, h3, h4⟩ := ha
  go_enter Try.func17, Try.ntmps17
  go_wp2_with fail
  clear hw0' c0 c1 c2 c3 c4 c5 hs
  refine wp_onlyN ?_
  have kd := (Below.refl w0.heap.size w0).drew
  have hA := (A4.mk hD0 hx).step kd
  have kb := k0.trans (kd.mono k0.size)
  refine wp_region_held_drew (S := A9 s (refV P (hsT T)) ⟨xa, xt, xq, xf, ⟨xs, xg⟩⟩) (by kernel_rfl) hA.i.a9 (fun hHeld => ?_)
  change wpAnyH _ _ _ _ _ _ _ _ w0.drew
  generalize w0.drew = w5 at hA kb hHeld ⊢
  clear kd hD0 hx kc k0
  refine wpAnyH_take (i := 0) (v := ?_) rfl (by kernel_rfl) (by kernel_rfl) (by kernel_rfl) (fun _ _ _ h => h) (Or.inl ⟨by rfl, ?_⟩) (by assumption) ?_
  rotate_left
  · (intro Y hSw; (try dsimp only at hSw); obtain ⟨hS0, hS1⟩ := hSw; go_simp; try with_reducible rfl)
  try simp only [Act.put, List.getElem_toArray, List.getElem_cons_zero, List.getElem_cons_succ, List.setIfInBounds_toArray, List.set_cons_zero, List.set_cons_succ]
  refine wpAnyH_take (i := 2) (v := .agg (refV P (hsT T))) rfl (by kernel_rfl) (by kernel_rfl) (by kernel_rfl) (fun _ _ _ h => h) (Or.inl ⟨by rfl, fun Y hSw => exec_loadB ty24 _ rfl s rfl hSw.r HSZ.out⟩) (by assumption) ?_
  try simp only [Act.put, List.getElem_toArray, List.getElem_cons_zero, List.getElem_cons_succ, List.setIfInBounds_toArray, List.set_cons_zero, List.set_cons_succ]
  refine wpAnyH_ready (rs := [1]) (by kernel_rfl) (by simp) ?_
  refine AllReadyH.cons rfl (fun K hK => ?_) AllReadyH.nil
  go_simp
  have hz5 := hA.i.o.lt
  refine (Copy_ok hA.d).mono ?_; rintro e w6 ⟨c, mc, rfl, hDc, hc1, hc2, k6⟩
  replace hA := hA.step k6
  have hz6 := kb.size
  replace kb := kb.trans (k6.mono kb.size)
  go_simp
  refine hK.out _ _ (hA.i.a9) (fun hHeld => ?_)
  clear hK K
  try simp only [Act.put, List.getElem_toArray, List.getElem_cons_zero, List.getElem_cons_succ, List.setIfInBounds_toArray, List.set_cons_zero, List.set_cons_succ]
  clear k6
  refine wpAnyH_take (i := 3) (v := ?_) rfl (by kernel_rfl) (by kernel_rfl) (by kernel_rfl) (fun _ _ _ h => h) (Or.inl ⟨by rfl, ?_⟩) (by assumption) ?_
  rotate_left
  · (intro Y hSw; (try dsimp only at hSw); obtain ⟨hS0, hS1⟩ := hSw; go_simp; try with_reducible rfl)
  try simp only [Act.put, List.getElem_toArray, List.getElem_cons_zero, List.getElem_cons_succ, List.setIfInBounds_toArray, List.set_cons_zero, List.set_cons_succ]
  refine wpAnyH_ready (rs := [4]) (by kernel_rfl) (by simp) ?_
  refine AllReadyH.cons rfl (fun K hK => ?_) AllReadyH.nil
  rw [if_pos (by rfl)]
  refine wp_storeB ty24 _ _ rfl (s + 1 + 1) (refV P (hsT T)) rfl rfl hA.i.o rfl HSZ.out (refV_one _ _) ?_
  have hO6 := hA.i.o.whole (refV P (hsT T)) (HSZ.out.trans rfl)
  have hD6 := hDc.setO (refV P (hsT T)).toList 0 (show c ≠ s + 1 + 1 by omega) (show mc ≠ s + 1 + 1 by omega)
  have kb6 := bel_setCells kb (show w.heap.size ≤ s + 1 + 1 by rw [HS.out]; omega) (refV P (hsT T)).toList 0
  refine hK.out _ _ (hA.i.a9.set (refV P (hsT T)).toList 0 (by omega) (by omega)) (fun hHeld => ?_)
  clear hK K
  try simp only [Act.put, List.getElem_toArray, List.getElem_cons_zero, List.getElem_cons_succ, List.setIfInBounds_toArray, List.set_cons_zero, List.set_cons_succ]
  refine wpAnyH_take (i := 5) (v := ?_) rfl (by kernel_rfl) (by kernel_rfl) (by kernel_rfl) (fun _ _ _ h => h) (Or.inl ⟨by rfl, ?_⟩) (by assumption) ?_
  rotate_left
  · (intro Y hSw; (try dsimp only at hSw); obtain ⟨hS0, hS1⟩ := hSw; go_simp; try with_reducible rfl)
  try simp only [Act.put, List.getElem_toArray, List.getElem_cons_zero, List.getElem_cons_succ, List.setIfInBounds_toArray, List.set_cons_zero, List.set_cons_succ]
  refine wpAnyH_done (by kernel_rfl) ?_ _
  rw [onlyN_normal]
  go_wp2_with fail
  exact ret_m3 rfl (s + 1 + 1) rfl hO6 HSZ.out rfl ⟨c, mc, ⟨rfl, hD6, Chg2.of_below kb6⟩, by omega, by omega, kb6⟩
end Go.Proofs.Ytchknegenaoliaa
