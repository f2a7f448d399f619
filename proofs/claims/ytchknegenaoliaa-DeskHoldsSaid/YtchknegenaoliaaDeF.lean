/-
  Package desk: Create. Conditions: a desk whose generations are small.
-/
import Derived.Test.YtchknegenaoliaaDeE
namespace Go.Proofs.Ytchknegenaoliaa
open Go.RowKit
attribute [local go_sem] Oper.semAt_some
set_option maxHeartbeats 500000
set_option maxRecDepth 4000

structure CtS (pd ps : Nat) (b : Nat) (s : Int) (Y : World) : Prop where
  d : Y.cell? ⟨pd, 0, none⟩ = some (.pointer (some ⟨b, 0, none⟩))
  s : Y.cell? ⟨ps, 0, none⟩ = some (.int .i64 s)
structure GrS (ps b k : Nat) (g : Int) (Y : World) : Prop where
  s : Y.cell? ⟨ps, 0, none⟩ = some (.int .i64 k)
  c : Y.cell? ⟨b, k * 4, none⟩ = some (.int .i64 g)
theorem Create_ok {n : Int} {w : World} {b m : Nat} {P : List Ten} {T : Thr} (hD : DkAt w b m P T) (hg : Good n P T) (hn : n ≤ 1000000) (s q f : Int) :
    Calls Try.prog 8 #[.pointer (some ⟨b, 0, none⟩), .int .i64 s, .int .i64 q, .int .i64 f] w fun e w' => e = .returned (.tuple #[encH (creH P s q f), .int .i64 (creE P s q f)]) ∧ DkAt w' b m (creP P s q f) T ∧ Chg b w w' := by
  obtain ⟨w0, hw0⟩ : ∃ w0, ((w.alloc (.cells #[.pointer (some ⟨b, 0, none⟩)] 24)).alloc (.cells #[.int .i64 s] 3)).alloc (.cells #[.int .i64 0, .int .i64 0] 28) = w0 := ⟨_, rfl⟩
  have hB1 : Blk w0 w.heap.size #[.pointer (some ⟨b, 0, none⟩)] 24 := by rw [← hw0]; exact ((Blk.new w _ _).alloc _).alloc _
  have hB2 : Blk w0 (w.heap.size + 1) #[.int .i64 s] 3 := by rw [← hw0]; exact (Blk.newAt _ _ _ (by simp)).alloc _
  have hR : Blk w0 (w.heap.size + 1 + 1) #[.int .i64 0, .int .i64 0] 28 := by rw [← hw0]; exact Blk.newAt _ _ _ (by simp)
  have hTw : TwoB w0 w.heap.size (w.heap.size + 1) b #[.int .i64 s] 3 := ⟨hB1, hB2⟩
  have k0 : Below w.heap.size w w0 := by rw [← hw0]; exact (((Below.refl _ w).alloc (Nat.le_refl _) _).alloc (by simp) _).alloc (by simp; omega) _
  have h0 := hD.step k0
  have z0 := k0.size
  have hbl := hD.blk.lt
  have hml := hD.mp.lt
  have hS : ∀ Y, Below w0.heap.size w0 Y → CtS w.heap.size (w.heap.size + 1) b s Y := fun Y k => ⟨(hB1.below k hB1.lt).cell 0 rfl, (hB2.below k hB2.lt).cell 0 rfl⟩
  have HS := Lib.hid hS
  clear hS hB1 hB2 hD
  go_enter Try.func8, Try.ntmps8
  go_wp2_with fail
  clear hw0
  refine wp_onlyN ?_
  refine wp_region_held_drew (S := CtS w.heap.size (w.heap.size + 1) b s) (by kernel_rfl) (HS.out _ (Below.refl _ w0).drew) (fun hHeld => ?_)
  refine wpAnyH_take (i := 0) (v := ?_) rfl (by kernel_rfl) (by kernel_rfl) (by kernel_rfl) (fun _ _ _ h => h) (Or.inl ⟨by rfl, ?_⟩) (by assumption) ?_
  rotate_left
  · (intro Y hSw; (try dsimp only at hSw); obtain ⟨hS0, hS1⟩ := hSw; go_simp; try with_reducible rfl)
  try simp only [Act.put, List.getElem_toArray, List.getElem_cons_zero, List.getElem_cons_succ, List.setIfInBounds_toArray, List.set_cons_zero, List.set_cons_succ]
  refine wpAnyH_take (i := 2) (v := ?_) rfl (by kernel_rfl) (by kernel_rfl) (by kernel_rfl) (fun _ _ _ h => h) (Or.inl ⟨by rfl, ?_⟩) (by assumption) ?_
  rotate_left
  · (intro Y hSw; (try dsimp only at hSw); obtain ⟨hS0, hS1⟩ := hSw; go_simp; try with_reducible rfl)
  try simp only [Act.put, List.getElem_toArray, List.getElem_cons_zero, List.getElem_cons_succ, List.setIfInBounds_toArray, List.set_cons_zero, List.set_cons_succ]
  refine wpAnyH_take (i := 3) (v := ?_) rfl (by kernel_rfl) (by kernel_rfl) (by kernel_rfl) (fun _ _ _ h => h) (Or.inl ⟨by rfl, ?_⟩) (by assumption) ?_
  rotate_left
  · (intro Y hSw; (try dsimp only at hSw); obtain ⟨hS0, hS1⟩ := hSw; go_simp; try with_reducible rfl)
  try simp only [Act.put, List.getElem_toArray, List.getElem_cons_zero, List.getElem_cons_succ, List.setIfInBounds_toArray, List.set_cons_zero, List.set_cons_succ]
  refine wpAnyH_take (i := 5) (v := ?_) rfl (by kernel_rfl) (by kernel_rfl) (by kernel_rfl) (fun _ _ _ h => h) (Or.inl ⟨by rfl, ?_⟩) (by assumption) ?_
  rotate_left
  · (intro Y hSw; (try dsimp only at hSw); obtain ⟨hS0, hS1⟩ := hSw; go_simp; try with_reducible rfl)
  try simp only [Act.put, List.getElem_toArray, List.getElem_cons_zero, List.getElem_cons_succ, List.setIfInBounds_toArray, List.set_cons_zero, List.set_cons_succ]
  refine wpAnyH_take (i := 7) (v := ?_) rfl (by kernel_rfl) (by kernel_rfl) (by kernel_rfl) (fun _ _ _ h => h) (Or.inl ⟨by rfl, ?_⟩) (by assumption) ?_
  rotate_left
  · (intro Y hSw; (try dsimp only at hSw); obtain ⟨hS0, hS1⟩ := hSw; go_simp; try with_reducible rfl)
  try simp only [Act.put, List.getElem_toArray, List.getElem_cons_zero, List.getElem_cons_succ, List.setIfInBounds_toArray, List.set_cons_zero, List.set_cons_succ]
  refine wpAnyH_take (i := 9) (v := ?_) rfl (by kernel_rfl) (by kernel_rfl) (by kernel_rfl) (fun _ _ _ h => h) (Or.inl ⟨by rfl, ?_⟩) (by assumption) ?_
  rotate_left
  · (intro Y hSw; (try dsimp only at hSw); obtain ⟨hS0, hS1⟩ := hSw; go_simp; try with_reducible rfl)
  try simp only [Act.put, List.getElem_toArray, List.getElem_cons_zero, List.getElem_cons_succ, List.setIfInBounds_toArray, List.set_cons_zero, List.set_cons_succ]
  refine wpAnyH_take (i := 10) (v := ?_) rfl (by kernel_rfl) (by kernel_rfl) (by kernel_rfl) (fun _ _ _ h => h) (Or.inl ⟨by rfl, ?_⟩) (by assumption) ?_
  rotate_left
  · (intro Y hSw; (try dsimp only at hSw); obtain ⟨hS0, hS1⟩ := hSw; go_simp; try with_reducible rfl)
  try simp only [Act.put, List.getElem_toArray, List.getElem_cons_zero, List.getElem_cons_succ, List.setIfInBounds_toArray, List.set_cons_zero, List.set_cons_succ]
  refine wpAnyH_ready (rs := [1]) (by kernel_rfl) (by simp) ?_
  refine AllReadyH.cons rfl (fun K hK => ?_) AllReadyH.nil
  go_simp
  refine (is_calls _ _).mono ?_; rintro e w1 ⟨rfl, h1⟩
  have k1 := (Below.refl w0.heap.size w0).drew.trans (h1.mono (Nat.le_refl _))
  go_simp
  refine hK.out _ _ (HS.out _ k1) (fun hHeld => ?_)
  clear hK K
  try simp only [Act.put, List.getElem_toArray, List.getElem_cons_zero, List.getElem_cons_succ, List.setIfInBounds_toArray, List.set_cons_zero, List.set_cons_succ]
  refine wpAnyH_ready (rs := [4]) (by kernel_rfl) (by simp) ?_
  refine AllReadyH.cons rfl (fun K hK => ?_) AllReadyH.nil
  go_simp
  refine (place_calls (some ⟨b, 0, none⟩) s w1).mono ?_; rintro e w2 ⟨rfl, p1, p2, h2⟩
  have k2 := k1.trans (h2.mono k1.size)
  have hA : TwoB w2 w1.heap.size (w1.heap.size + 1) b #[.int .i64 s] 3 := ⟨p1, p2⟩
  go_simp
  refine hK.out _ _ (HS.out _ k2) (fun hHeld => ?_)
  clear hK K
  try simp only [Act.put, List.getElem_toArray, List.getElem_cons_zero, List.getElem_cons_succ, List.setIfInBounds_toArray, List.set_cons_zero, List.set_cons_succ]
  refine wpAnyH_ready (rs := [6]) (by kernel_rfl) (by simp) ?_
  refine AllReadyH.cons rfl (fun K hK => ?_) AllReadyH.nil
  go_simp
  refine (within_calls q 1073741824 w2).mono ?_; rintro e w3 ⟨rfl, q1, q2, h3⟩
  have k3 := k2.trans (h3.mono k2.size)
  have hQ : NumB w3 w2.heap.size (w2.heap.size + 1) q 1073741824 := ⟨q1, q2⟩
  replace hA := hA.step h3
  go_simp
  refine hK.out _ _ (HS.out _ k3) (fun hHeld => ?_)
  clear hK K
  try simp only [Act.put, List.getElem_toArray, List.getElem_cons_zero, List.getElem_cons_succ, List.setIfInBounds_toArray, List.set_cons_zero, List.set_cons_succ]
  refine wpAnyH_ready (rs := [8]) (by kernel_rfl) (by simp) ?_
  refine AllReadyH.cons rfl (fun K hK => ?_) AllReadyH.nil
  go_simp
  refine (within_calls f 16384 w3).mono ?_; rintro e w4 ⟨rfl, q3, q4, h4⟩
  have k4 := k3.trans (h4.mono k3.size)
  have hF : NumB w4 w3.heap.size (w3.heap.size + 1) f 16384 := ⟨q3, q4⟩
  replace hA := hA.step h4
  replace hQ := hQ.step h4
  have z4 := k4.size
  go_simp
  refine hK.out _ _ (HS.out _ k4) (fun hHeld => ?_)
  clear hK K
  try simp only [Act.put, List.getElem_toArray, List.getElem_cons_zero, List.getElem_cons_succ, List.setIfInBounds_toArray, List.set_cons_zero, List.set_cons_succ]
  refine wpAnyH_ready (rs := [11]) (by kernel_rfl) (by simp) ?_
  refine AllReadyH.cons rfl (fun K hK => ?_) AllReadyH.nil
  go_simp
  have k5 := k4.alloc z4 (.cells (askList (creAsks b w1.heap.size w2.heap.size w3.heap.size w.heap.size P s q f)).toArray 76)
  have hrow : AskRow (w4.alloc (.cells (askList (creAsks b w1.heap.size w2.heap.size w3.heap.size w.heap.size P s q f)).toArray 76)) w4.heap.size (creAsks b w1.heap.size w2.heap.size w3.heap.size w.heap.size P s q f) := askRow_of (Blk.new w4 _ _)
  have j5 : Below w4.heap.size w4 (w4.alloc (.cells (askList (creAsks b w1.heap.size w2.heap.size w3.heap.size w.heap.size P s q f)).toArray 76)) := (Below.refl _ w4).alloc (Nat.le_refl _) _
  have hA5 := hA.step j5
  have hQ5 := hQ.step j5
  have hF5 := hF.step j5
  refine hK.out _ _ (HS.out _ k5) (fun hHeld => ?_)
  clear hK K
  try simp only [Act.put, List.getElem_toArray, List.getElem_cons_zero, List.getElem_cons_succ, List.setIfInBounds_toArray, List.set_cons_zero, List.set_cons_succ]
  change wpAnyH _ _ _ _ _ _ _ _ (w4.alloc (.cells (askList (creAsks b w1.heap.size w2.heap.size w3.heap.size w.heap.size P s q f)).toArray 76))
  generalize (w4.alloc (.cells (askList (creAsks b w1.heap.size w2.heap.size w3.heap.size w.heap.size P s q f)).toArray 76)) = w5 at k5 hrow hA5 hQ5 hF5 j5 hHeld ⊢
  have hans := cre_answers (h0.step k5) hA5 hQ5 hF5 (hTw.below k5 hTw.d.lt hTw.n.lt)
  refine wpAnyH_ready (rs := [12]) (by kernel_rfl) (by simp) ?_
  refine AllReadyH.cons rfl (fun K hK => ?_) AllReadyH.nil
  go_simp
  refine (asked_ok w5 w4.heap.size 5 5 _ rfl (by simp [creAsks]) (Lib.hid hrow) (Lib.hid hans)).mono ?_; rintro e w6 ⟨rfl, h6⟩
  rw [creAsks_eq]
  have k6 := k5.trans (h6.mono k5.size)
  go_simp
  refine hK.out _ _ (HS.out _ k6) (fun hHeld => ?_)
  clear hK K
  try simp only [Act.put, List.getElem_toArray, List.getElem_cons_zero, List.getElem_cons_succ, List.setIfInBounds_toArray, List.set_cons_zero, List.set_cons_succ]
  refine wpAnyH_take (i := 13) (v := ?_) rfl (by kernel_rfl) (by kernel_rfl) (by kernel_rfl) (fun _ _ _ h => h) (Or.inl ⟨by rfl, ?_⟩) (by assumption) ?_
  rotate_left
  · (intro Y hSw; (try dsimp only at hSw); obtain ⟨hS0, hS1⟩ := hSw; go_simp; try with_reducible rfl)
  try simp only [Act.put, List.getElem_toArray, List.getElem_cons_zero, List.getElem_cons_succ, List.setIfInBounds_toArray, List.set_cons_zero, List.set_cons_succ]
  refine wpAnyH_done (by kernel_rfl) ?_ _
  rw [onlyN_normal]
  clear hrow hans hA5 hQ5 hF5 hA hQ hF p1 p2 q1 q2 q3 q4 h6 k5 k4 k3 k2 k1 h1 h2 h3 h4 j5 hHeld z4
  have h6 := h0.step k6
  have hR6 := hR.below k6 hR.lt
  have hch : Chg b w w6 := .of_below (k0.trans (k6.mono z0))
  obtain ⟨c0, c1⟩ := HS.out _ k6
  have r0 : w6.cell? ⟨w.heap.size + 1 + 1, 0, none⟩ = some (.int .i64 0) := hR6.cell 0 rfl
  have r1 : w6.cell? ⟨w.heap.size + 1 + 1, 1, none⟩ = some (.int .i64 0) := hR6.cell 1 rfl
  have f0 := hR6.frozen 0
  have f1 := hR6.frozen 1
  obtain ⟨er, her⟩ : ∃ er, creE P s q f = er := ⟨_, rfl⟩
  have HER := Lib.hid her
  rw [her]
  clear her
  by_cases h9 : er = 0
  · subst h9
    obtain ⟨hs, _, _, _⟩ := creE_ok HER.out
    obtain ⟨k, rfl⟩ : ∃ k : Nat, s = k := ⟨s.toNat, by omega⟩
    have hk : k < 4 := by omega
    have i0 : (0 : Int) ≤ k := by omega
    have i1 : (k : Int) < 4 := by omega
    have hgen := hg.gen _ (tenD_mem hg.len hs)
    obtain ⟨e0, e1, e2, e3⟩ := h6.ten k hk
    obtain ⟨x, hx⟩ : ∃ x, tenD P k = x := ⟨_, rfl⟩
    rw [hx] at e0 e1 e2 e3 hgen
    have HX := Lib.hid hx
    have hwr : IntKind.i64.wrap (x.g + 1) = x.g + 1 := IntWalk.i64_in _ (by omega)
    clear hx
    go_wp2_with fail
    refine wp_onlyN ?_
    refine wp_region_held_drew (S := CtS w.heap.size (w.heap.size + 1) b k) (by kernel_rfl) (HS.out _ (k6.trans ((Below.refl _ w6).drew.mono k6.size))) (fun hHeld => ?_)
    have kd := (Below.refl w6.heap.size w6).drew
    have h7 := h6.step kd
    have hR7 := hR6.below kd hR6.lt
    have hch7 := hch.trans (.of_below kd)
    have hTw7 := hTw.below (k6.trans (kd.mono k6.size)) hTw.d.lt hTw.n.lt
    clear h6 hR6 hch kd c0 c1 r0 r1 f0 f1 e0 e1 e2 e3
    change wpAnyH _ _ _ _ _ _ _ _ w6.drew
    generalize w6.drew = w7 at h7 hR7 hch7 hTw7 hHeld ⊢
    refine wpAnyH_take (i := 0) (v := ?_) rfl (by kernel_rfl) (by kernel_rfl) (by kernel_rfl) (fun _ _ _ h => h) (Or.inl ⟨by rfl, ?_⟩) (by assumption) ?_
    rotate_left
    · (intro Y hSw; (try dsimp only at hSw); obtain ⟨hS0, hS1⟩ := hSw; go_simp; try with_reducible rfl)
    try simp only [Act.put, List.getElem_toArray, List.getElem_cons_zero, List.getElem_cons_succ, List.setIfInBounds_toArray, List.set_cons_zero, List.set_cons_succ]
    refine wpAnyH_take (i := 1) (v := ?_) rfl (by kernel_rfl) (by kernel_rfl) (by kernel_rfl) (fun _ _ _ h => h) (Or.inl ⟨by rfl, ?_⟩) (by assumption) ?_
    rotate_left
    · (intro Y hSw; (try dsimp only at hSw); obtain ⟨hS0, hS1⟩ := hSw; go_simp; try with_reducible rfl)
    try simp only [Act.put, List.getElem_toArray, List.getElem_cons_zero, List.getElem_cons_succ, List.setIfInBounds_toArray, List.set_cons_zero, List.set_cons_succ]
    refine wpAnyH_take (i := 2) (v := ?_) rfl (by kernel_rfl) (by kernel_rfl) (by kernel_rfl) (fun _ _ _ h => h) (Or.inl ⟨by rfl, ?_⟩) (by assumption) ?_
    rotate_left
    · (intro Y hSw; (try dsimp only at hSw); obtain ⟨hS0, hS1⟩ := hSw; go_simp; try with_reducible rfl)
    try simp only [Act.put, List.getElem_toArray, List.getElem_cons_zero, List.getElem_cons_succ, List.setIfInBounds_toArray, List.set_cons_zero, List.set_cons_succ]
    refine wpAnyH_take (i := 3) (v := ?_) rfl (by kernel_rfl) (by kernel_rfl) (by kernel_rfl) (fun _ _ _ h => h) (Or.inl ⟨by rfl, ?_⟩) (by assumption) ?_
    rotate_left
    · (intro Y hSw; (try dsimp only at hSw); obtain ⟨hS0, hS1⟩ := hSw; go_simp; try with_reducible rfl)
    try simp only [Act.put, List.getElem_toArray, List.getElem_cons_zero, List.getElem_cons_succ, List.setIfInBounds_toArray, List.set_cons_zero, List.set_cons_succ]
    refine wpAnyH_take (i := 4) (v := ?_) rfl (by kernel_rfl) (by kernel_rfl) (by kernel_rfl) (fun _ _ _ h => h) (Or.inl ⟨by rfl, ?_⟩) (by assumption) ?_
    rotate_left
    · (intro Y hSw; (try dsimp only at hSw); obtain ⟨hS0, hS1⟩ := hSw; go_simp; try with_reducible rfl)
    try simp only [Act.put, List.getElem_toArray, List.getElem_cons_zero, List.getElem_cons_succ, List.setIfInBounds_toArray, List.set_cons_zero, List.set_cons_succ]
    refine wpAnyH_take (i := 5) (v := ?_) rfl (by kernel_rfl) (by kernel_rfl) (by kernel_rfl) (fun _ _ _ h => h) (Or.inl ⟨by rfl, ?_⟩) (by assumption) ?_
    rotate_left
    · (intro Y hSw; (try dsimp only at hSw); obtain ⟨hS0, hS1⟩ := hSw; go_simp; try with_reducible rfl)
    try simp only [Act.put, List.getElem_toArray, List.getElem_cons_zero, List.getElem_cons_succ, List.setIfInBounds_toArray, List.set_cons_zero, List.set_cons_succ]
    refine wpAnyH_done (by kernel_rfl) ?_ _
    rw [onlyN_normal]
    clear hHeld
    obtain ⟨e0, e1, e2, e3⟩ := h7.ten k hk
    rw [HX.out] at e0 e1 e2 e3
    have f0 := h7.blk.frozen (k * 4)
    have f1 := h7.blk.frozen (k * 4 + 1)
    have f2 := h7.blk.frozen (k * 4 + 2)
    have f3 := h7.blk.frozen (k * 4 + 3)
    go_wp2_with fail
    have h8 := h7.put k hk ⟨x.g + 1, true, q, f⟩
    have hnr : w.heap.size + 1 + 1 ≠ b := by omega
    have hR8 := (((hR7.setOther ⟨b, k * 4, none⟩ (.int .i64 (x.g + 1)) hnr).setOther ⟨b, k * 4 + 1, none⟩ (.bool true) hnr).setOther ⟨b, k * 4 + 2, none⟩ (.int .i64 q) hnr).setOther ⟨b, k * 4 + 3, none⟩ (.int .i64 f) hnr
    have hS8 := (((hTw7.n.setOther ⟨b, k * 4, none⟩ (.int .i64 (x.g + 1)) (by dsimp only; omega)).setOther ⟨b, k * 4 + 1, none⟩ (.bool true) (by dsimp only; omega)).setOther ⟨b, k * 4 + 2, none⟩ (.int .i64 q) (by dsimp only; omega)).setOther ⟨b, k * 4 + 3, none⟩ (.int .i64 f) (by dsimp only; omega)
    have hch8 := hch7.put4 k (.int .i64 (x.g + 1)) (.bool true) (.int .i64 q) (.int .i64 f)
    dsimp only at h8
    generalize World.setCell (World.setCell (World.setCell (World.setCell w7 _ _) _ _) _ _) _ _ = w8 at h8 hR8 hS8 hch8 ⊢
    clear h7 hR7 hch7 hTw7 e0 e1 e2 e3 f0 f1 f2 f3
    refine wp_onlyN ?_
    have kd := (Below.refl w8.heap.size w8).drew
    have h9 := h8.step kd
    have hR9 := hR8.below kd hR8.lt
    have hS9 := hS8.below kd hS8.lt
    have hch9 := hch8.trans (.of_below kd)
    have hlen : (P.set k ⟨x.g + 1, true, q, f⟩).length = 4 := by rw [List.length_set]; exact hg.len
    have g0 := (h9.ten k hk).1
    have hst := tenD_set hg.len hs ⟨x.g + 1, true, q, f⟩ hs
    rw [if_pos rfl, Int.toNat_natCast] at hst
    rw [hst] at g0
    dsimp only at g0
    clear h8 hR8 hS8 hch8 kd hst
    refine wp_region_held_drew (S := GrS (w.heap.size + 1) b k (x.g + 1)) (by kernel_rfl) ⟨hS9.cell 0 rfl, g0⟩ (fun hHeld => ?_)
    change wpAnyH _ _ _ _ _ _ _ _ w8.drew
    generalize w8.drew = w9 at h9 hR9 hS9 hch9 g0 hHeld ⊢
    have r0 : w9.cell? ⟨w.heap.size + 1 + 1, 0, none⟩ = some (.int .i64 0) := hR9.cell 0 rfl
    have r1 : w9.cell? ⟨w.heap.size + 1 + 1, 1, none⟩ = some (.int .i64 0) := hR9.cell 1 rfl
    have f0 := hR9.frozen 0
    have f1 := hR9.frozen 1
    refine wpAnyH_take (i := 0) (v := ?_) rfl (by kernel_rfl) (by kernel_rfl) (by kernel_rfl) (fun _ _ _ h => h) (Or.inl ⟨by rfl, ?_⟩) (by assumption) ?_
    rotate_left
    · (intro Y hSw; (try dsimp only at hSw); obtain ⟨hS0, hS1⟩ := hSw; go_simp; try with_reducible rfl)
    try simp only [Act.put, List.getElem_toArray, List.getElem_cons_zero, List.getElem_cons_succ, List.setIfInBounds_toArray, List.set_cons_zero, List.set_cons_succ]
    refine wpAnyH_take (i := 1) (v := ?_) rfl (by kernel_rfl) (by kernel_rfl) (by kernel_rfl) (fun _ _ _ h => h) (Or.inl ⟨by rfl, ?_⟩) (by assumption) ?_
    rotate_left
    · (intro Y hSw; (try dsimp only at hSw); obtain ⟨hS0, hS1⟩ := hSw; go_simp; try with_reducible rfl)
    try simp only [Act.put, List.getElem_toArray, List.getElem_cons_zero, List.getElem_cons_succ, List.setIfInBounds_toArray, List.set_cons_zero, List.set_cons_succ]
    refine wpAnyH_take (i := 2) (v := ?_) rfl (by kernel_rfl) (by kernel_rfl) (by kernel_rfl) (fun _ _ _ h => h) (Or.inl ⟨by rfl, ?_⟩) (by assumption) ?_
    rotate_left
    · (intro Y hSw; (try dsimp only at hSw); obtain ⟨hS0, hS1⟩ := hSw; go_simp; try with_reducible rfl)
    try simp only [Act.put, List.getElem_toArray, List.getElem_cons_zero, List.getElem_cons_succ, List.setIfInBounds_toArray, List.set_cons_zero, List.set_cons_succ]
    refine wpAnyH_take (i := 3) (v := ?_) rfl (by kernel_rfl) (by kernel_rfl) (by kernel_rfl) (fun _ _ _ h => h) (Or.inl ⟨by rfl, ?_⟩) (by assumption) ?_
    rotate_left
    · (intro Y hSw; (try dsimp only at hSw); obtain ⟨hS0, hS1⟩ := hSw; go_simp; try with_reducible rfl)
    try simp only [Act.put, List.getElem_toArray, List.getElem_cons_zero, List.getElem_cons_succ, List.setIfInBounds_toArray, List.set_cons_zero, List.set_cons_succ]
    refine wpAnyH_take (i := 4) (v := ?_) rfl (by kernel_rfl) (by kernel_rfl) (by kernel_rfl) (fun _ _ _ h => h) (Or.inl ⟨by rfl, ?_⟩) (by assumption) ?_
    rotate_left
    · (intro Y hSw; (try dsimp only at hSw); obtain ⟨hS0, hS1⟩ := hSw; go_simp; try with_reducible rfl)
    try simp only [Act.put, List.getElem_toArray, List.getElem_cons_zero, List.getElem_cons_succ, List.setIfInBounds_toArray, List.set_cons_zero, List.set_cons_succ]
    refine wpAnyH_take (i := 5) (v := ?_) rfl (by kernel_rfl) (by kernel_rfl) (by kernel_rfl) (fun _ _ _ h => h) (Or.inl ⟨by rfl, ?_⟩) (by assumption) ?_
    rotate_left
    · (intro Y hSw; (try dsimp only at hSw); obtain ⟨hS0, hS1⟩ := hSw; go_simp; try with_reducible rfl)
    try simp only [Act.put, List.getElem_toArray, List.getElem_cons_zero, List.getElem_cons_succ, List.setIfInBounds_toArray, List.set_cons_zero, List.set_cons_succ]
    refine wpAnyH_ready (rs := [6]) (by kernel_rfl) (by simp) ?_
    refine AllReadyH.cons rfl (fun K hK => ?_) AllReadyH.nil
    go_simp
    have hne1 : b ≠ w.heap.size + 1 + 1 := by omega
    have hne2 : m ≠ w.heap.size + 1 + 1 := by omega
    have HG : GrS (w.heap.size + 1) b k (x.g + 1) ((w9.setCell ⟨w.heap.size + 1 + 1, 0, none⟩ (.int .i64 k)).setCell ⟨w.heap.size + 1 + 1, 1, none⟩ (.int .i64 (x.g + 1))) := by
      refine ⟨((hS9.setOther ⟨w.heap.size + 1 + 1, 0, none⟩ _ (by dsimp only; omega)).setOther ⟨w.heap.size + 1 + 1, 1, none⟩ _ (by dsimp only; omega)).cell 0 rfl, ?_⟩
      have := (h9.set2 (g := w.heap.size + 1 + 1) (.int .i64 k) (.int .i64 (x.g + 1)) hne1 hne2).ten k hk
      have hst := tenD_set hg.len hs ⟨x.g + 1, true, q, f⟩ hs
      rw [if_pos rfl, Int.toNat_natCast] at hst
      rw [hst] at this
      exact this.1
    refine hK.out _ _ (HG) (fun hHeld => ?_)
    clear hK K
    try simp only [Act.put, List.getElem_toArray, List.getElem_cons_zero, List.getElem_cons_succ, List.setIfInBounds_toArray, List.set_cons_zero, List.set_cons_succ]
    refine wpAnyH_take (i := 7) (v := ?_) rfl (by kernel_rfl) (by kernel_rfl) (by kernel_rfl) (fun _ _ _ h => h) (Or.inl ⟨by rfl, ?_⟩) (by assumption) ?_
    rotate_left
    · (intro Y hSw; (try dsimp only at hSw); obtain ⟨hS0, hS1⟩ := hSw; go_simp; try with_reducible rfl)
    try simp only [Act.put, List.getElem_toArray, List.getElem_cons_zero, List.getElem_cons_succ, List.setIfInBounds_toArray, List.set_cons_zero, List.set_cons_succ]
    refine wpAnyH_done (by kernel_rfl) ?_ _
    rw [onlyN_normal]
    have hcre : creP P k q f = P.set k ⟨x.g + 1, true, q, f⟩ := by unfold creP; rw [if_pos HER.out, Int.toNat_natCast, HX.out]
    have hcrh : creH P k q f = ⟨k, x.g + 1⟩ := by unfold creH; rw [if_pos HER.out, HX.out]
    have HC1 := Lib.hid hcre
    have HC2 := Lib.hid hcrh
    clear hcre hcrh hlen g0 r0 r1 f0 f1 hHeld
    go_wp2_with fail
    exact ret_h2 rfl (w.heap.size + 1 + 1) rfl (hR9.set2 _ _) rfl rfl ⟨by rw [HC2.out, HER.out]; rfl, by rw [HC1.out]; exact h9.set2 _ _ hne1 hne2, hch9.set2 _ _ _ (by omega)⟩
  · have hcre : creP P s q f = P := by unfold creP; rw [if_neg (by rw [HER.out]; exact h9)]
    have hcrh : creH P s q f = ⟨0, 0⟩ := by unfold creH; rw [if_neg (by rw [HER.out]; exact h9)]
    have HC1 := Lib.hid hcre
    have HC2 := Lib.hid hcrh
    clear hcre hcrh
    go_wp2_with fail
    exact ret_h2 rfl (w.heap.size + 1 + 1) rfl (hR6.set2 _ _) rfl rfl ⟨by rw [HC2.out, HER.out]; rfl, by rw [HC1.out]; exact h6.set2 _ _ (by omega) (by omega), hch.set2 _ _ _ (by omega)⟩
end Go.Proofs.Ytchknegenaoliaa
