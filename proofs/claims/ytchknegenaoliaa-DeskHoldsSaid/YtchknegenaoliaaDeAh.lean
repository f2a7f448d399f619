/-
  Package pinfoldlaw21: act, a thread unbound. Conditions: what stands at a desk.
-/
import Derived.Test.YtchknegenaoliaaDeAg
namespace Go.Proofs.Ytchknegenaoliaa
open Go.RowKit
attribute [local go_sem] Oper.semAt_some
set_option maxHeartbeats 1000000
set_option maxRecDepth 4000

structure A3 (s g : Nat) (R : Array Value) (y : Hnd) (Y : World) : Prop where
  r : Blk Y s R 52
  z : Blk Y g #[.int .i64 y.s, .int .i64 y.g] 28
theorem A3.step {s g : Nat} {R : Array Value} {y : Hnd} {Y Z : World} (h : A3 s g R y Y) (k : Below Y.heap.size Y Z) : A3 s g R y Z := ⟨h.r.below k h.r.lt, h.z.below k h.z.lt⟩
theorem A3.set {s g c : Nat} {R : Array Value} {y : Hnd} {Y : World} (h : A3 s g R y Y) (vs : List Value) (o : Nat) (h1 : s ≠ c) (h2 : g ≠ c) : A3 s g R y (Y.setCells c o vs) := ⟨h.r.setCellsO vs o h1, h.z.setCellsO vs o h2⟩
theorem act3_ok {w : World} {b m : Nat} {n : Int} {P : List Ten} {T : Thr} (hD : DkAt w b m P T) (hg : Good n P T) (x : ActD) (ha : x.a = 3) :
    Calls Try.prog 17 #[.pointer (some ⟨b, 0, none⟩), .agg (refV P (hsT T)), .agg (actC x)] w fun e w' => ActR w b m P (unbT T x.t) e w' b m := by
  obtain ⟨w0, hw0⟩ : ∃ w0, ((w.alloc (.cells (refV P (hsT T)) 52)).alloc (.cells (actC x) 30)).alloc (.cells zerV 52) = w0 := ⟨_, rfl⟩
  have k0 : Below w.heap.size w w0 := by rw [← hw0]; exact (((Below.refl _ w).alloc (Nat.le_refl _) _).alloc (by simp) _).alloc (by simp; omega) _
  have hx : AcS w.heap.size (refV P (hsT T)) x w0 := ⟨by rw [← hw0]; exact ((Blk.new w _ _).alloc _).alloc _, by rw [← hw0]; exact (Blk.newAt _ _ _ (by simp)).alloc _, by rw [← hw0]; exact Blk.newAt _ _ _ (by simp)⟩
  have hD0 := hD.step k0
  have hbs := hD.blk.lt
  have hms := hD.mp.lt
  have hz0 : w.heap.size + 3 ≤ w0.heap.size := by have := hx.o.lt; omega
  have hw0' : ((w.alloc (.cells (refV P (hsT T)) 52)).alloc (.cells (actC x) 30)).alloc (.cells #[.int .i64 0, .bool false, .int .i64 0, .int .i64 0, .int .i64 0, .bool false, .int .i64 0, .int .i64 0, .int .i64 0, .bool false, .int .i64 0, .int .i64 0, .int .i64 0, .bool false, .int .i64 0, .int .i64 0, .int .i64 0, .int .i64 0, .int .i64 0, .int .i64 0, .int .i64 0, .int .i64 0, .int .i64 0, .int .i64 0] 52) = w0 := hw0
  obtain ⟨s, hs⟩ : ∃ s, w.heap.size = s := ⟨_, rfl⟩
  have HS := Lib.hid hs
  have kc : Chg2 b m w w0 := Chg2.of_below k0
  rw [hs] at hx hbs hms hz0
  have hL := hsT_L hg.len T
  have HSZ := Lib.hid hL.size
  have HL := Lib.hid hL
  have HG := Lib.hid hg
  clear hw0 hL hD k0
  obtain ⟨xa, xt, xq, xf, ⟨xs, xg⟩⟩ := x
  dsimp only at ha hw0' ⊢
  have c0 : w0.cell? ⟨s + 1, 0, none⟩ = some (.int .i64 xa) := hx.x.cell 0 rfl
  have c1 : w0.cell? ⟨s + 1, 1, none⟩ = some (.int .i64 xt) := hx.x.cell 1 rfl
  have c2 : w0.cell? ⟨s + 1, 2, none⟩ = some (.int .i64 xq) := hx.x.cell 2 rfl
  have c3 : w0.cell? ⟨s + 1, 3, none⟩ = some (.int .i64 xf) := hx.x.cell 3 rfl
  have c4 : w0.cell? ⟨s + 1, 4, none⟩ = some (.int .i64 xs) := hx.x.cell 4 rfl
  have c5 : w0.cell? ⟨s + 1, 5, none⟩ = some (.int .i64 xg) := hx.x.cell 5 rfl
  subst ha
  go_enter Try.func17, Try.ntmps17
  go_wp2_with fail
  clear hw0' c0 c1 c2 c3 c4 c5 hs
  refine (Unbind_ok hD0 xt).mono ?_; rintro e w1 ⟨rfl, hD1, kch⟩
  have hx1 := hx.chg2 (kch.r b) hbs hms
  have kc1 := kc.trans (kch.r b)
  have hz1 := kch.size
  obtain ⟨y, hy⟩ : ∃ y, unbH T xt = y := ⟨_, rfl⟩
  obtain ⟨T1, hT1⟩ : ∃ T1, unbT T xt = T1 := ⟨_, rfl⟩
  obtain ⟨er, her⟩ : ∃ er, unbE xt = er := ⟨_, rfl⟩
  have HY := Lib.hid hy
  have HT1 := Lib.hid hT1
  have HE := Lib.hid her
  rw [hT1] at hD1
  rw [hy, her]
  obtain ⟨w2, hw2⟩ : ∃ w2, w1.alloc (.cells #[.int .i64 y.s, .int .i64 y.g] 28) = w2 := ⟨_, rfl⟩
  have k2 : Below w1.heap.size w1 w2 := by rw [← hw2]; exact (Below.refl _ w1).alloc (Nat.le_refl _) _
  have hY2 : Blk w2 w1.heap.size #[.int .i64 y.s, .int .i64 y.g] 28 := by rw [← hw2]; exact Blk.new w1 _ _
  have hx2 := hx1.step k2
  have hD2 := hD1.step k2
  have kc2 := kc1.trans (Chg2.of_below k2)
  have hz2 := k2.size
  have c0 : w2.cell? ⟨s + 1, 0, none⟩ = some (.int .i64 3) := hx2.x.cell 0 rfl
  have c1 : w2.cell? ⟨s + 1, 1, none⟩ = some (.int .i64 xt) := hx2.x.cell 1 rfl
  unfold encH
  clear hx hD0 kc kch hx1 hD1 kc1 hy hT1 her k2
  go_wp2_with fail
  clear hw2
  refine (Thread_calls _ _).mono ?_; rintro e _ ⟨rfl, rfl⟩
  by_cases hi : inS xt = true
  · rw [hi]
    have hi' := inS_iff.1 hi
    obtain ⟨e1, e2, e3⟩ := unb_in (T := T) hi
    rw [HY.out] at e2
    rw [HE.out] at e3
    rw [HT1.out] at e1
    obtain rfl : er = 0 := e3
    obtain ⟨k, rfl⟩ : ∃ k : Nat, xt = k := ⟨xt.toNat, by omega⟩
    have hk : k < 4 := by omega
    have i0 : (0 : Int) ≤ k := by omega
    have i1 : (k : Int) < 4 := by omega
    obtain ⟨q0, q1⟩ := refV_hnd HL.out k hk
    rw [hsT_get T hi', ← e2] at q0 q1
    have hset := unb_hs HG.out.srt hi'
    rw [Int.toNat_natCast, ← e1] at hset
    have HSET := Lib.hid hset
    have HSZ1 := Lib.hid (hsT_L HG.out.len T1).size
    have r0 := hx2.r.cell _ q0
    have r1 := hx2.r.cell _ q1
    obtain ⟨w3, hw3⟩ : ∃ w3, w2.alloc (.cells #[.int .i64 y.s, .int .i64 y.g] 28) = w3 := ⟨_, rfl⟩
    have k3 : Below w2.heap.size w2 w3 := by rw [← hw3]; exact (Below.refl _ w2).alloc (Nat.le_refl _) _
    have hZ3 : Blk w3 w2.heap.size #[.int .i64 y.s, .int .i64 y.g] 28 := by rw [← hw3]; exact Blk.new w2 _ _
    have hx3 := hx2.step k3
    have u0 := hx3.r.cell _ q0
    have u1 := hx3.r.cell _ q1
    have f0 := hx3.r.frozen (16 + k * 2)
    have f1 := hx3.r.frozen (16 + k * 2 + 1)
    have d1 : w3.cell? ⟨s + 1, 1, none⟩ = some (.int .i64 k) := hx3.x.cell 1 rfl
    have HX3 := Lib.hid hx3
    have HY3 := Lib.hid (hY2.below k3 hY2.lt)
    have HZ3 := Lib.hid hZ3
    have HD3 := Lib.hid (hD2.step k3)
    have HK3 := Lib.hid (kc2.trans (Chg2.of_below k3))
    have hyl := hY2.lt
    have hzl := hZ3.lt
    clear hi hi' e1 e2 q0 q1 hset hx2 hx3 hY2 hZ3 hD2 kc2 k3
    go_wp2_with fail
    clear hw3
    have hA4 := (HX3.out.r.set (16 + k * 2) (.int .i64 0)).set (16 + k * 2 + 1) (.int .i64 0)
    have hst := refV_setHnd HL.out k hk ⟨0, 0⟩
    dsimp only at hst
    rw [hst, HSET.out] at hA4
    have hY4 := (HY3.out.setOther ⟨s, 16 + k * 2, none⟩ (.int .i64 0) (by dsimp only; omega)).setOther ⟨s, 16 + k * 2 + 1, none⟩ (.int .i64 0) (by dsimp only; omega)
    have hZ4 := (HZ3.out.setOther ⟨s, 16 + k * 2, none⟩ (.int .i64 0) (by dsimp only; omega)).setOther ⟨s, 16 + k * 2 + 1, none⟩ (.int .i64 0) (by dsimp only; omega)
    have hO4 := (HX3.out.o.setOther ⟨s, 16 + k * 2, none⟩ (.int .i64 0) (by dsimp only; omega)).setOther ⟨s, 16 + k * 2 + 1, none⟩ (.int .i64 0) (by dsimp only; omega)
    have hD4 := HD3.out.setO [.int .i64 0, .int .i64 0] (16 + k * 2) (show b ≠ s by omega) (show m ≠ s by omega)
    have kc4 := chg2_set HK3.out (show w.heap.size ≤ s by rw [HS.out]; omega) [.int .i64 0, .int .i64 0] (16 + k * 2)
    change DkAt (World.setCell (World.setCell w3 _ _) _ _) b m P T1 at hD4
    change Chg2 b m w (World.setCell (World.setCell w3 _ _) _ _) at kc4
    generalize World.setCell (World.setCell w3 _ _) _ _ = w4 at hA4 hY4 hZ4 hO4 hD4 kc4 ⊢
    clear hst r0 r1 u0 u1 f0 f1 d1 c0 c1
    refine wp_onlyN ?_
    have kd := (Below.refl w4.heap.size w4).drew
    have hAA := (A3.mk hA4 hY4).step kd
    have hBB := (A3.mk hA4 hZ4).step kd
    have hO5 := hO4.below kd hO4.lt
    have hD5 := hD4.step kd
    have kc5 := kc4.trans (Chg2.of_below kd)
    refine wp_region_held_drew (S := fun Y => A3 s w1.heap.size (refV P (hsT T1)) y Y ∧ A3 s w2.heap.size (refV P (hsT T1)) y Y) (by kernel_rfl) ⟨hAA, hBB⟩ (fun hHeld => ?_)
    change wpAnyH _ _ _ _ _ _ _ _ w4.drew
    generalize w4.drew = w5 at hAA hBB hO5 hD5 kc5 hHeld ⊢
    clear kd hA4 hY4 hZ4 hO4 hD4 kc4
    refine wpAnyH_take (i := 0) (v := ?_) rfl (by kernel_rfl) (by kernel_rfl) (by kernel_rfl) (fun _ _ _ h => h) (Or.inl ⟨by rfl, ?_⟩) (by assumption) ?_
    rotate_left
    · (intro Y hSw; (try dsimp only at hSw); obtain ⟨hS0, hS1⟩ := hSw; go_simp; try with_reducible rfl)
    try simp only [Act.put, List.getElem_toArray, List.getElem_cons_zero, List.getElem_cons_succ, List.setIfInBounds_toArray, List.set_cons_zero, List.set_cons_succ]
    refine wpAnyH_take (i := 1) (v := .agg (refV P (hsT T1))) rfl (by kernel_rfl) (by kernel_rfl) (by kernel_rfl) (fun _ _ _ h => h) (Or.inl ⟨by rfl, fun Y hSw => exec_loadB ty24 _ rfl s rfl hSw.1.r HSZ1.out⟩) (by assumption) ?_
    try simp only [Act.put, List.getElem_toArray, List.getElem_cons_zero, List.getElem_cons_succ, List.setIfInBounds_toArray, List.set_cons_zero, List.set_cons_succ]
    refine wpAnyH_take (i := 2) (v := .agg #[.int .i64 y.s, .int .i64 y.g]) rfl (by kernel_rfl) (by kernel_rfl) (by kernel_rfl) (fun _ _ _ h => h) (Or.inl ⟨by rfl, by intro Y hSw; have x0 := hSw.1.z.cell 0 rfl; have x1 := hSw.1.z.cell 1 rfl; go_simp⟩) (by assumption) ?_
    try simp only [Act.put, List.getElem_toArray, List.getElem_cons_zero, List.getElem_cons_succ, List.setIfInBounds_toArray, List.set_cons_zero, List.set_cons_succ]
    refine wpAnyH_take (i := 3) (v := .agg #[.int .i64 y.s, .int .i64 y.g]) rfl (by kernel_rfl) (by kernel_rfl) (by kernel_rfl) (fun _ _ _ h => h) (Or.inl ⟨by rfl, by intro Y hSw; have x0 := hSw.2.z.cell 0 rfl; have x1 := hSw.2.z.cell 1 rfl; go_simp⟩) (by assumption) ?_
    try simp only [Act.put, List.getElem_toArray, List.getElem_cons_zero, List.getElem_cons_succ, List.setIfInBounds_toArray, List.set_cons_zero, List.set_cons_succ]
    refine wpAnyH_take (i := 4) (v := ?_) rfl (by kernel_rfl) (by kernel_rfl) (by kernel_rfl) (fun _ _ _ h => h) (Or.inl ⟨by rfl, ?_⟩) (by assumption) ?_
    rotate_left
    · (intro Y hSw; (try dsimp only at hSw); obtain ⟨hS0, hS1⟩ := hSw; go_simp; try with_reducible rfl)
    try simp only [Act.put, List.getElem_toArray, List.getElem_cons_zero, List.getElem_cons_succ, List.setIfInBounds_toArray, List.set_cons_zero, List.set_cons_succ]
    refine wpAnyH_take (i := 5) (v := ?_) rfl (by kernel_rfl) (by kernel_rfl) (by kernel_rfl) (fun _ _ _ h => h) (Or.inl ⟨by rfl, ?_⟩) (by assumption) ?_
    rotate_left
    · (intro Y hSw; (try dsimp only at hSw); obtain ⟨hS0, hS1⟩ := hSw; go_simp; try with_reducible rfl)
    try simp only [Act.put, List.getElem_toArray, List.getElem_cons_zero, List.getElem_cons_succ, List.setIfInBounds_toArray, List.set_cons_zero, List.set_cons_succ]
    refine wpAnyH_take (i := 6) (v := ?_) rfl (by kernel_rfl) (by kernel_rfl) (by kernel_rfl) (fun _ _ _ h => h) (Or.inl ⟨by rfl, ?_⟩) (by assumption) ?_
    rotate_left
    · (intro Y hSw; (try dsimp only at hSw); obtain ⟨hS0, hS1⟩ := hSw; go_simp; try with_reducible rfl)
    try simp only [Act.put, List.getElem_toArray, List.getElem_cons_zero, List.getElem_cons_succ, List.setIfInBounds_toArray, List.set_cons_zero, List.set_cons_succ]
    refine wpAnyH_ready (rs := [7]) (by kernel_rfl) (by simp) ?_
    refine AllReadyH.cons rfl (fun K hK => ?_) AllReadyH.nil
    go_simp
    refine (num_calls _ _).mono ?_; rintro e _ ⟨rfl, rfl⟩
    go_simp
    refine hK.out _ _ (⟨hAA, hBB⟩) (fun hHeld => ?_)
    clear hK K
    try simp only [Act.put, List.getElem_toArray, List.getElem_cons_zero, List.getElem_cons_succ, List.setIfInBounds_toArray, List.set_cons_zero, List.set_cons_succ]
    refine wpAnyH_take (i := 8) (v := ?_) rfl (by kernel_rfl) (by kernel_rfl) (by kernel_rfl) (fun _ _ _ h => h) (Or.inl ⟨by rfl, ?_⟩) (by assumption) ?_
    rotate_left
    · (intro Y hSw; (try dsimp only at hSw); obtain ⟨hS0, hS1⟩ := hSw; go_simp; try with_reducible rfl)
    try simp only [Act.put, List.getElem_toArray, List.getElem_cons_zero, List.getElem_cons_succ, List.setIfInBounds_toArray, List.set_cons_zero, List.set_cons_succ]
    refine wpAnyH_take (i := 9) (v := ?_) rfl (by kernel_rfl) (by kernel_rfl) (by kernel_rfl) (fun _ _ _ h => h) (Or.inl ⟨by rfl, ?_⟩) (by assumption) ?_
    rotate_left
    · (intro Y hSw; (try dsimp only at hSw); obtain ⟨hS0, hS1⟩ := hSw; go_simp; try with_reducible rfl)
    try simp only [Act.put, List.getElem_toArray, List.getElem_cons_zero, List.getElem_cons_succ, List.setIfInBounds_toArray, List.set_cons_zero, List.set_cons_succ]
    refine wpAnyH_take (i := 10) (v := ?_) rfl (by kernel_rfl) (by kernel_rfl) (by kernel_rfl) (fun _ _ _ h => h) (Or.inl ⟨by rfl, ?_⟩) (by assumption) ?_
    rotate_left
    · (intro Y hSw; (try dsimp only at hSw); obtain ⟨hS0, hS1⟩ := hSw; go_simp; try with_reducible rfl)
    try simp only [Act.put, List.getElem_toArray, List.getElem_cons_zero, List.getElem_cons_succ, List.setIfInBounds_toArray, List.set_cons_zero, List.set_cons_succ]
    refine wpAnyH_ready (rs := [11]) (by kernel_rfl) (by simp) ?_
    refine AllReadyH.cons rfl (fun K hK => ?_) AllReadyH.nil
    rw [if_pos (by rfl)]
    refine wp_storeB ty24 _ _ rfl (s + 1 + 1) (refV P (hsT T1)) rfl rfl hO5 rfl HSZ1.out (refV_one _ _) ?_
    have hO6 := hO5.whole (refV P (hsT T1)) (HSZ1.out.trans rfl)
    have hD6 := hD5.setO (refV P (hsT T1)).toList 0 (show b ≠ s + 1 + 1 by omega) (show m ≠ s + 1 + 1 by omega)
    have kc6 := chg2_set kc5 (show w.heap.size ≤ s + 1 + 1 by rw [HS.out]; omega) (refV P (hsT T1)).toList 0
    refine hK.out _ _ (⟨hAA.set (refV P (hsT T1)).toList 0 (by omega) (by omega), hBB.set (refV P (hsT T1)).toList 0 (by omega) (by omega)⟩) (fun hHeld => ?_)
    clear hK K
    try simp only [Act.put, List.getElem_toArray, List.getElem_cons_zero, List.getElem_cons_succ, List.setIfInBounds_toArray, List.set_cons_zero, List.set_cons_succ]
    refine wpAnyH_take (i := 12) (v := ?_) rfl (by kernel_rfl) (by kernel_rfl) (by kernel_rfl) (fun _ _ _ h => h) (Or.inl ⟨by rfl, ?_⟩) (by assumption) ?_
    rotate_left
    · (intro Y hSw; (try dsimp only at hSw); obtain ⟨hS0, hS1⟩ := hSw; go_simp; try with_reducible rfl)
    try simp only [Act.put, List.getElem_toArray, List.getElem_cons_zero, List.getElem_cons_succ, List.setIfInBounds_toArray, List.set_cons_zero, List.set_cons_succ]
    refine wpAnyH_done (by kernel_rfl) ?_ _
    rw [onlyN_normal]
    go_wp2_with fail
    exact ret_m3 rfl (s + 1 + 1) rfl hO6 HSZ1.out rfl ⟨by have := HT1.out; (try dsimp only at this ⊢); rw [this]; rfl, by have := HT1.out; (try dsimp only at this ⊢); rw [this]; exact hD6, kc6⟩
  · have hi' : inS xt = false := by simpa using hi
    rw [hi']
    obtain ⟨e1, e2, e3⟩ := unb_out (T := T) hi'
    rw [HY.out] at e2
    rw [HE.out] at e3
    rw [HT1.out] at e1
    subst e1
    obtain rfl : er = 2 := e3
    obtain rfl : y = ⟨0, 0⟩ := e2
    clear hi hi'
    go_wp2_with fail
    refine wp_onlyN ?_
    have kd := (Below.refl w2.heap.size w2).drew
    have hAA := (A3.mk (y := ⟨0, 0⟩) hx2.r hY2).step kd
    have hO5 := hx2.o.below kd hx2.o.lt
    have hD5 := hD2.step kd
    have kc5 := kc2.trans (Chg2.of_below kd)
    have hyl := hY2.lt
    refine wp_region_held_drew (S := A3 s w1.heap.size (refV P (hsT T1)) ⟨0, 0⟩) (by kernel_rfl) hAA (fun hHeld => ?_)
    change wpAnyH _ _ _ _ _ _ _ _ w2.drew
    generalize w2.drew = w5 at hAA hO5 hD5 kc5 hHeld ⊢
    clear kd hx2 hD2 kc2 hY2
    refine wpAnyH_take (i := 0) (v := ?_) rfl (by kernel_rfl) (by kernel_rfl) (by kernel_rfl) (fun _ _ _ h => h) (Or.inl ⟨by rfl, ?_⟩) (by assumption) ?_
    rotate_left
    · (intro Y hSw; (try dsimp only at hSw); obtain ⟨hS0, hS1⟩ := hSw; go_simp; try with_reducible rfl)
    try simp only [Act.put, List.getElem_toArray, List.getElem_cons_zero, List.getElem_cons_succ, List.setIfInBounds_toArray, List.set_cons_zero, List.set_cons_succ]
    refine wpAnyH_take (i := 1) (v := .agg (refV P (hsT T1))) rfl (by kernel_rfl) (by kernel_rfl) (by kernel_rfl) (fun _ _ _ h => h) (Or.inl ⟨by rfl, fun Y hSw => exec_loadB ty24 _ rfl s rfl hSw.r HSZ.out⟩) (by assumption) ?_
    try simp only [Act.put, List.getElem_toArray, List.getElem_cons_zero, List.getElem_cons_succ, List.setIfInBounds_toArray, List.set_cons_zero, List.set_cons_succ]
    refine wpAnyH_take (i := 2) (v := .agg #[.int .i64 0, .int .i64 0]) rfl (by kernel_rfl) (by kernel_rfl) (by kernel_rfl) (fun _ _ _ h => h) (Or.inl ⟨by rfl, by intro Y hSw; have x0 := hSw.z.cell 0 rfl; have x1 := hSw.z.cell 1 rfl; go_simp⟩) (by assumption) ?_
    try simp only [Act.put, List.getElem_toArray, List.getElem_cons_zero, List.getElem_cons_succ, List.setIfInBounds_toArray, List.set_cons_zero, List.set_cons_succ]
    refine wpAnyH_take (i := 3) (v := ?_) rfl (by kernel_rfl) (by kernel_rfl) (by kernel_rfl) (fun _ _ _ h => h) (Or.inl ⟨by rfl, ?_⟩) (by assumption) ?_
    rotate_left
    · (intro Y hSw; (try dsimp only at hSw); obtain ⟨hS0, hS1⟩ := hSw; go_simp; try with_reducible rfl)
    try simp only [Act.put, List.getElem_toArray, List.getElem_cons_zero, List.getElem_cons_succ, List.setIfInBounds_toArray, List.set_cons_zero, List.set_cons_succ]
    refine wpAnyH_take (i := 4) (v := ?_) rfl (by kernel_rfl) (by kernel_rfl) (by kernel_rfl) (fun _ _ _ h => h) (Or.inl ⟨by rfl, ?_⟩) (by assumption) ?_
    rotate_left
    · (intro Y hSw; (try dsimp only at hSw); obtain ⟨hS0, hS1⟩ := hSw; go_simp; try with_reducible rfl)
    try simp only [Act.put, List.getElem_toArray, List.getElem_cons_zero, List.getElem_cons_succ, List.setIfInBounds_toArray, List.set_cons_zero, List.set_cons_succ]
    refine wpAnyH_take (i := 5) (v := ?_) rfl (by kernel_rfl) (by kernel_rfl) (by kernel_rfl) (fun _ _ _ h => h) (Or.inl ⟨by rfl, ?_⟩) (by assumption) ?_
    rotate_left
    · (intro Y hSw; (try dsimp only at hSw); obtain ⟨hS0, hS1⟩ := hSw; go_simp; try with_reducible rfl)
    try simp only [Act.put, List.getElem_toArray, List.getElem_cons_zero, List.getElem_cons_succ, List.setIfInBounds_toArray, List.set_cons_zero, List.set_cons_succ]
    refine wpAnyH_take (i := 6) (v := ?_) rfl (by kernel_rfl) (by kernel_rfl) (by kernel_rfl) (fun _ _ _ h => h) (Or.inl ⟨by rfl, ?_⟩) (by assumption) ?_
    rotate_left
    · (intro Y hSw; (try dsimp only at hSw); obtain ⟨hS0, hS1⟩ := hSw; go_simp; try with_reducible rfl)
    try simp only [Act.put, List.getElem_toArray, List.getElem_cons_zero, List.getElem_cons_succ, List.setIfInBounds_toArray, List.set_cons_zero, List.set_cons_succ]
    refine wpAnyH_ready (rs := [7]) (by kernel_rfl) (by simp) ?_
    refine AllReadyH.cons rfl (fun K hK => ?_) AllReadyH.nil
    go_simp
    refine (num_calls _ _).mono ?_; rintro e _ ⟨rfl, rfl⟩
    go_simp
    refine hK.out _ _ (hAA) (fun hHeld => ?_)
    clear hK K
    try simp only [Act.put, List.getElem_toArray, List.getElem_cons_zero, List.getElem_cons_succ, List.setIfInBounds_toArray, List.set_cons_zero, List.set_cons_succ]
    refine wpAnyH_take (i := 8) (v := ?_) rfl (by kernel_rfl) (by kernel_rfl) (by kernel_rfl) (fun _ _ _ h => h) (Or.inl ⟨by rfl, ?_⟩) (by assumption) ?_
    rotate_left
    · (intro Y hSw; (try dsimp only at hSw); obtain ⟨hS0, hS1⟩ := hSw; go_simp; try with_reducible rfl)
    try simp only [Act.put, List.getElem_toArray, List.getElem_cons_zero, List.getElem_cons_succ, List.setIfInBounds_toArray, List.set_cons_zero, List.set_cons_succ]
    refine wpAnyH_take (i := 9) (v := ?_) rfl (by kernel_rfl) (by kernel_rfl) (by kernel_rfl) (fun _ _ _ h => h) (Or.inl ⟨by rfl, ?_⟩) (by assumption) ?_
    rotate_left
    · (intro Y hSw; (try dsimp only at hSw); obtain ⟨hS0, hS1⟩ := hSw; go_simp; try with_reducible rfl)
    try simp only [Act.put, List.getElem_toArray, List.getElem_cons_zero, List.getElem_cons_succ, List.setIfInBounds_toArray, List.set_cons_zero, List.set_cons_succ]
    refine wpAnyH_take (i := 10) (v := ?_) rfl (by kernel_rfl) (by kernel_rfl) (by kernel_rfl) (fun _ _ _ h => h) (Or.inl ⟨by rfl, ?_⟩) (by assumption) ?_
    rotate_left
    · (intro Y hSw; (try dsimp only at hSw); obtain ⟨hS0, hS1⟩ := hSw; go_simp; try with_reducible rfl)
    try simp only [Act.put, List.getElem_toArray, List.getElem_cons_zero, List.getElem_cons_succ, List.setIfInBounds_toArray, List.set_cons_zero, List.set_cons_succ]
    refine wpAnyH_ready (rs := [11]) (by kernel_rfl) (by simp) ?_
    refine AllReadyH.cons rfl (fun K hK => ?_) AllReadyH.nil
    rw [if_pos (by rfl)]
    refine wp_storeB ty24 _ _ rfl (s + 1 + 1) (refV P (hsT T1)) rfl rfl hO5 rfl HSZ.out (refV_one _ _) ?_
    have hO6 := hO5.whole (refV P (hsT T1)) (HSZ.out.trans rfl)
    have hD6 := hD5.setO (refV P (hsT T1)).toList 0 (show b ≠ s + 1 + 1 by omega) (show m ≠ s + 1 + 1 by omega)
    have kc6 := chg2_set kc5 (show w.heap.size ≤ s + 1 + 1 by rw [HS.out]; omega) (refV P (hsT T1)).toList 0
    refine hK.out _ _ (hAA.set (refV P (hsT T1)).toList 0 (by omega) (by omega)) (fun hHeld => ?_)
    clear hK K
    try simp only [Act.put, List.getElem_toArray, List.getElem_cons_zero, List.getElem_cons_succ, List.setIfInBounds_toArray, List.set_cons_zero, List.set_cons_succ]
    refine wpAnyH_take (i := 12) (v := ?_) rfl (by kernel_rfl) (by kernel_rfl) (by kernel_rfl) (fun _ _ _ h => h) (Or.inl ⟨by rfl, ?_⟩) (by assumption) ?_
    rotate_left
    · (intro Y hSw; (try dsimp only at hSw); obtain ⟨hS0, hS1⟩ := hSw; go_simp; try with_reducible rfl)
    try simp only [Act.put, List.getElem_toArray, List.getElem_cons_zero, List.getElem_cons_succ, List.setIfInBounds_toArray, List.set_cons_zero, List.set_cons_succ]
    refine wpAnyH_done (by kernel_rfl) ?_ _
    rw [onlyN_normal]
    go_wp2_with fail
    exact ret_m3 rfl (s + 1 + 1) rfl hO6 HSZ.out rfl ⟨by have := HT1.out; (try dsimp only at this ⊢); rw [this]; rfl, by have := HT1.out; (try dsimp only at this ⊢); rw [this]; exact hD6, kc6⟩
end Go.Proofs.Ytchknegenaoliaa
