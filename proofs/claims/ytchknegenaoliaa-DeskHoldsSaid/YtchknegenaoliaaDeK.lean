/-
  Package desk: Info. No condition.
-/
import Derived.Test.YtchknegenaoliaaDeJ
namespace Go.Proofs.Ytchknegenaoliaa
open Go.RowKit
attribute [local go_sem] Oper.semAt_some
set_option maxHeartbeats 800000
set_option maxRecDepth 4000

def infQ (P : List Ten) (h : Hnd) : Int := if chkE P h = 0 then (tenD P h.s).q else 0
def infF (P : List Ten) (h : Hnd) : Int := if chkE P h = 0 then (tenD P h.s).f else 0
structure InS (g b k : Nat) (x : Ten) (Y : World) : Prop where
  s : Y.cell? ⟨g, 0, none⟩ = some (.int .i64 k)
  c0 : Y.cell? ⟨b, k * 4, none⟩ = some (.int .i64 x.g)
  c1 : Y.cell? ⟨b, k * 4 + 1, none⟩ = some (.bool x.t)
  c2 : Y.cell? ⟨b, k * 4 + 2, none⟩ = some (.int .i64 x.q)
  c3 : Y.cell? ⟨b, k * 4 + 3, none⟩ = some (.int .i64 x.f)
theorem Info_ok {w : World} {b m : Nat} {P : List Ten} {T : Thr} (hD : DkAt w b m P T) (h : Hnd) :
    Calls Try.prog 25 #[.pointer (some ⟨b, 0, none⟩), .agg #[.int .i64 h.s, .int .i64 h.g]] w fun e w' => e = .returned (.tuple #[.int .i64 (infQ P h), .int .i64 (infF P h), .int .i64 (chkE P h)]) ∧ Below w.heap.size w w' := by
  obtain ⟨w0, hw0⟩ : ∃ w0, w.alloc (.cells #[.int .i64 h.s, .int .i64 h.g] 28) = w0 := ⟨_, rfl⟩
  have hH : Blk w0 w.heap.size #[.int .i64 h.s, .int .i64 h.g] 28 := by rw [← hw0]; exact Blk.new w _ _
  have k0 : Below w.heap.size w w0 := by rw [← hw0]; exact (Below.refl _ w).alloc (Nat.le_refl _) _
  have h0 := hD.step k0
  have z0 := k0.size
  have c0 : w0.cell? ⟨w.heap.size, 0, none⟩ = some (.int .i64 h.s) := hH.cell 0 rfl
  have c1 : w0.cell? ⟨w.heap.size, 1, none⟩ = some (.int .i64 h.g) := hH.cell 1 rfl
  go_enter Try.func25, Try.ntmps25
  go_wp2_with fail
  clear hw0 c0 c1
  refine (Check_ok h0 h).mono ?_; rintro e w1 ⟨rfl, h1⟩
  have hT1 := h0.step h1
  have hH1 := hH.below h1 hH.lt
  have kk := k0.trans (h1.mono z0)
  obtain ⟨q, hq⟩ : ∃ q, chkE P h = q := ⟨_, rfl⟩
  have HQ := Lib.hid hq
  rw [hq]
  clear hq
  have hA : infQ P h = if q = 0 then (tenD P h.s).q else 0 := by unfold infQ; rw [HQ.out]
  have hB : infF P h = if q = 0 then (tenD P h.s).f else 0 := by unfold infF; rw [HQ.out]
  have HA := Lib.hid hA
  have HB := Lib.hid hB
  clear hA hB
  by_cases h9 : q = 0
  · subst h9
    obtain ⟨hs, _, _⟩ := chkE_ok.1 HQ.out
    obtain ⟨s, g⟩ := h
    dsimp only at hs hH1 ⊢
    obtain ⟨k, rfl⟩ : ∃ k : Nat, s = k := ⟨s.toNat, by omega⟩
    have hk : k < 4 := by omega
    have i0 : (0 : Int) ≤ k := by omega
    have i1 : (k : Int) < 4 := by omega
    obtain ⟨x, hx⟩ : ∃ x, tenD P k = x := ⟨_, rfl⟩
    have HX := Lib.hid hx
    clear hx
    have hI : ∀ Y, Below w1.heap.size w1 Y → InS w.heap.size b k x Y := fun Y j => by
      obtain ⟨e0, e1, e2, e3⟩ := (hT1.step j).ten k hk
      rw [HX.out] at e0 e1 e2 e3
      exact ⟨(hH1.below j hH1.lt).cell 0 rfl, e0, e1, e2, e3⟩
    have HI := Lib.hid hI
    clear hI
    go_wp2_with fail
    refine wp_onlyN ?_
    have kd := (Below.refl w1.heap.size w1).drew
    refine wp_region_held_drew (S := InS w.heap.size b k x) (by kernel_rfl) (HI.out _ kd) (fun hHeld => ?_)
    change wpAnyH _ _ _ _ _ _ _ _ w1.drew
    generalize w1.drew = w2 at kd hHeld ⊢
    refine wpAnyH_take (i := 0) (v := ?_) rfl (by kernel_rfl) (by kernel_rfl) (by kernel_rfl) (fun _ _ _ h => h) (Or.inl ⟨by rfl, ?_⟩) (by assumption) ?_
    rotate_left
    · (intro Y hSw; (try dsimp only at hSw); obtain ⟨hS0, hS1, hS2, hS3, hS4⟩ := hSw; go_simp; try with_reducible rfl)
    try simp only [Act.put, List.getElem_toArray, List.getElem_cons_zero, List.getElem_cons_succ, List.setIfInBounds_toArray, List.set_cons_zero, List.set_cons_succ]
    refine wpAnyH_take (i := 1) (v := ?_) rfl (by kernel_rfl) (by kernel_rfl) (by kernel_rfl) (fun _ _ _ h => h) (Or.inl ⟨by rfl, ?_⟩) (by assumption) ?_
    rotate_left
    · (intro Y hSw; (try dsimp only at hSw); obtain ⟨hS0, hS1, hS2, hS3, hS4⟩ := hSw; go_simp; try with_reducible rfl)
    try simp only [Act.put, List.getElem_toArray, List.getElem_cons_zero, List.getElem_cons_succ, List.setIfInBounds_toArray, List.set_cons_zero, List.set_cons_succ]
    refine wpAnyH_take (i := 2) (v := ?_) rfl (by kernel_rfl) (by kernel_rfl) (by kernel_rfl) (fun _ _ _ h => h) (Or.inl ⟨by rfl, ?_⟩) (by assumption) ?_
    rotate_left
    · (intro Y hSw; (try dsimp only at hSw); obtain ⟨hS0, hS1, hS2, hS3, hS4⟩ := hSw; go_simp; try with_reducible rfl)
    try simp only [Act.put, List.getElem_toArray, List.getElem_cons_zero, List.getElem_cons_succ, List.setIfInBounds_toArray, List.set_cons_zero, List.set_cons_succ]
    refine wpAnyH_take (i := 3) (v := ?_) rfl (by kernel_rfl) (by kernel_rfl) (by kernel_rfl) (fun _ _ _ h => h) (Or.inl ⟨by rfl, ?_⟩) (by assumption) ?_
    rotate_left
    · (intro Y hSw; (try dsimp only at hSw); obtain ⟨hS0, hS1, hS2, hS3, hS4⟩ := hSw; go_simp; try with_reducible rfl)
    try simp only [Act.put, List.getElem_toArray, List.getElem_cons_zero, List.getElem_cons_succ, List.setIfInBounds_toArray, List.set_cons_zero, List.set_cons_succ]
    refine wpAnyH_take (i := 4) (v := ?_) rfl (by kernel_rfl) (by kernel_rfl) (by kernel_rfl) (fun _ _ _ h => h) (Or.inl ⟨by rfl, ?_⟩) (by assumption) ?_
    rotate_left
    · (intro Y hSw; (try dsimp only at hSw); obtain ⟨hS0, hS1, hS2, hS3, hS4⟩ := hSw; go_simp; try with_reducible rfl)
    try simp only [Act.put, List.getElem_toArray, List.getElem_cons_zero, List.getElem_cons_succ, List.setIfInBounds_toArray, List.set_cons_zero, List.set_cons_succ]
    refine wpAnyH_take (i := 5) (v := ?_) rfl (by kernel_rfl) (by kernel_rfl) (by kernel_rfl) (fun _ _ _ h => h) (Or.inl ⟨by rfl, ?_⟩) (by assumption) ?_
    rotate_left
    · (intro Y hSw; (try dsimp only at hSw); obtain ⟨hS0, hS1, hS2, hS3, hS4⟩ := hSw; go_simp; try with_reducible rfl)
    try simp only [Act.put, List.getElem_toArray, List.getElem_cons_zero, List.getElem_cons_succ, List.setIfInBounds_toArray, List.set_cons_zero, List.set_cons_succ]
    refine wpAnyH_take (i := 6) (v := ?_) rfl (by kernel_rfl) (by kernel_rfl) (by kernel_rfl) (fun _ _ _ h => h) (Or.inl ⟨by rfl, ?_⟩) (by assumption) ?_
    rotate_left
    · (intro Y hSw; (try dsimp only at hSw); obtain ⟨hS0, hS1, hS2, hS3, hS4⟩ := hSw; go_simp; try with_reducible rfl)
    try simp only [Act.put, List.getElem_toArray, List.getElem_cons_zero, List.getElem_cons_succ, List.setIfInBounds_toArray, List.set_cons_zero, List.set_cons_succ]
    refine wpAnyH_ready (rs := [7]) (by kernel_rfl) (by simp) ?_
    refine AllReadyH.cons rfl (fun K hK => ?_) AllReadyH.nil
    go_simp
    have j3 : Below w1.heap.size w1 (w2.alloc (.cells #[.int .i64 0, .bool false, .int .i64 0, .int .i64 0] 69)) := kd.alloc kd.size _
    have hN := Blk.new w2 #[.int .i64 0, .bool false, .int .i64 0, .int .i64 0] 69
    have hd2 : w1.heap.size ≤ w2.heap.size := kd.size
    refine hK.out _ _ (HI.out _ j3) (fun hHeld => ?_)
    clear hK K
    try simp only [Act.put, List.getElem_toArray, List.getElem_cons_zero, List.getElem_cons_succ, List.setIfInBounds_toArray, List.set_cons_zero, List.set_cons_succ]
    change wpAnyH _ _ _ _ _ _ _ _ (w2.alloc (.cells #[.int .i64 0, .bool false, .int .i64 0, .int .i64 0] 69))
    obtain ⟨d, hd⟩ : ∃ d, w2.heap.size = d := ⟨_, rfl⟩
    rw [hd] at hN hd2 ⊢
    generalize w2.alloc (.cells #[.int .i64 0, .bool false, .int .i64 0, .int .i64 0] 69) = w3 at j3 hN hHeld ⊢
    clear hd
    have n0 : w3.cell? ⟨d, 0, none⟩ = some (.int .i64 0) := hN.cell 0 rfl
    have n1 : w3.cell? ⟨d, 1, none⟩ = some (.bool false) := hN.cell 1 rfl
    have n2 : w3.cell? ⟨d, 2, none⟩ = some (.int .i64 0) := hN.cell 2 rfl
    have n3 : w3.cell? ⟨d, 3, none⟩ = some (.int .i64 0) := hN.cell 3 rfl
    have f0 := hN.frozen 0
    have f1 := hN.frozen 1
    have f2 := hN.frozen 2
    have f3 := hN.frozen 3
    refine wpAnyH_ready (rs := [8]) (by kernel_rfl) (by simp) ?_
    refine AllReadyH.cons rfl (fun K hK => ?_) AllReadyH.nil
    go_simp
    have j4 := (((j3.setCell (p := ⟨d, 0, none⟩) hd2 (.int .i64 x.g)).setCell (p := ⟨d, 1, none⟩) hd2 (.bool x.t)).setCell (p := ⟨d, 2, none⟩) hd2 (.int .i64 x.q)).setCell (p := ⟨d, 3, none⟩) hd2 (.int .i64 x.f)
    have hN4 := (((hN.set 0 (.int .i64 x.g)).set 1 (.bool x.t)).set 2 (.int .i64 x.q)).set 3 (.int .i64 x.f)
    refine hK.out _ _ (HI.out _ j4) (fun hHeld => ?_)
    clear hK K
    try simp only [Act.put, List.getElem_toArray, List.getElem_cons_zero, List.getElem_cons_succ, List.setIfInBounds_toArray, List.set_cons_zero, List.set_cons_succ]
    refine wpAnyH_done (by kernel_rfl) ?_ _
    rw [onlyN_normal]
    generalize World.setCell (World.setCell (World.setCell (World.setCell w3 _ _) _ _) _ _) _ _ = w4 at j4 hN4 ⊢
    clear n0 n1 n2 n3 f0 f1 f2 f3 hN j3 hHeld
    have y2 : w4.cell? ⟨d, 2, none⟩ = some (.int .i64 x.q) := hN4.cell 2 rfl
    have y3 : w4.cell? ⟨d, 3, none⟩ = some (.int .i64 x.f) := hN4.cell 3 rfl
    go_wp2_with fail
    refine wp_onlyN ?_
    refine wp_region_held_drew (S := fun Y => Y.cell? ⟨d, 2, none⟩ = some (.int .i64 x.q) ∧ Y.cell? ⟨d, 3, none⟩ = some (.int .i64 x.f)) (by kernel_rfl) ⟨y2, y3⟩ (fun hHeld => ?_)
    refine wpAnyH_take (i := 0) (v := ?_) rfl (by kernel_rfl) (by kernel_rfl) (by kernel_rfl) (fun _ _ _ h => h) (Or.inl ⟨by rfl, ?_⟩) (by assumption) ?_
    rotate_left
    · (intro Y hSw; (try dsimp only at hSw); obtain ⟨hS0, hS1⟩ := hSw; go_simp; try with_reducible rfl)
    try simp only [Act.put, List.getElem_toArray, List.getElem_cons_zero, List.getElem_cons_succ, List.setIfInBounds_toArray, List.set_cons_zero, List.set_cons_succ]
    refine wpAnyH_take (i := 1) (v := ?_) rfl (by kernel_rfl) (by kernel_rfl) (by kernel_rfl) (fun _ _ _ h => h) (Or.inl ⟨by rfl, ?_⟩) (by assumption) ?_
    rotate_left
    · (intro Y hSw; (try dsimp only at hSw); obtain ⟨hS0, hS1⟩ := hSw; go_simp; try with_reducible rfl)
    try simp only [Act.put, List.getElem_toArray, List.getElem_cons_zero, List.getElem_cons_succ, List.setIfInBounds_toArray, List.set_cons_zero, List.set_cons_succ]
    refine wpAnyH_take (i := 2) (v := ?_) rfl (by kernel_rfl) (by kernel_rfl) (by kernel_rfl) (fun _ _ _ h => h) (Or.inl ⟨by rfl, ?_⟩) (by assumption) ?_
    rotate_left
    · (intro Y hSw; (try dsimp only at hSw); obtain ⟨hS0, hS1⟩ := hSw; go_simp; try with_reducible rfl)
    try simp only [Act.put, List.getElem_toArray, List.getElem_cons_zero, List.getElem_cons_succ, List.setIfInBounds_toArray, List.set_cons_zero, List.set_cons_succ]
    refine wpAnyH_take (i := 3) (v := ?_) rfl (by kernel_rfl) (by kernel_rfl) (by kernel_rfl) (fun _ _ _ h => h) (Or.inl ⟨by rfl, ?_⟩) (by assumption) ?_
    rotate_left
    · (intro Y hSw; (try dsimp only at hSw); obtain ⟨hS0, hS1⟩ := hSw; go_simp; try with_reducible rfl)
    try simp only [Act.put, List.getElem_toArray, List.getElem_cons_zero, List.getElem_cons_succ, List.setIfInBounds_toArray, List.set_cons_zero, List.set_cons_succ]
    refine wpAnyH_take (i := 4) (v := ?_) rfl (by kernel_rfl) (by kernel_rfl) (by kernel_rfl) (fun _ _ _ h => h) (Or.inl ⟨by rfl, ?_⟩) (by assumption) ?_
    rotate_left
    · (intro Y hSw; (try dsimp only at hSw); obtain ⟨hS0, hS1⟩ := hSw; go_simp; try with_reducible rfl)
    try simp only [Act.put, List.getElem_toArray, List.getElem_cons_zero, List.getElem_cons_succ, List.setIfInBounds_toArray, List.set_cons_zero, List.set_cons_succ]
    refine wpAnyH_take (i := 5) (v := ?_) rfl (by kernel_rfl) (by kernel_rfl) (by kernel_rfl) (fun _ _ _ h => h) (Or.inl ⟨by rfl, ?_⟩) (by assumption) ?_
    rotate_left
    · (intro Y hSw; (try dsimp only at hSw); obtain ⟨hS0, hS1⟩ := hSw; go_simp; try with_reducible rfl)
    try simp only [Act.put, List.getElem_toArray, List.getElem_cons_zero, List.getElem_cons_succ, List.setIfInBounds_toArray, List.set_cons_zero, List.set_cons_succ]
    refine wpAnyH_take (i := 6) (v := ?_) rfl (by kernel_rfl) (by kernel_rfl) (by kernel_rfl) (fun _ _ _ h => h) (Or.inl ⟨by rfl, ?_⟩) (by assumption) ?_
    rotate_left
    · (intro Y hSw; (try dsimp only at hSw); obtain ⟨hS0, hS1⟩ := hSw; go_simp; try with_reducible rfl)
    try simp only [Act.put, List.getElem_toArray, List.getElem_cons_zero, List.getElem_cons_succ, List.setIfInBounds_toArray, List.set_cons_zero, List.set_cons_succ]
    refine wpAnyH_done (by kernel_rfl) ?_ _
    rw [onlyN_normal]
    go_wp2_with fail
    go_ret3
    exact ⟨by rw [HA.out, HB.out, HQ.out]; dsimp only; rw [HX.out]; rfl, kk.trans ((j4.trans ((Below.refl _ w4).drew.mono j4.size)).mono kk.size)⟩
  · go_wp2_with fail
    go_ret3
    exact ⟨by rw [HA.out, HB.out, HQ.out, if_neg h9, if_neg h9]; first | rfl | skip, kk⟩
end Go.Proofs.Ytchknegenaoliaa
