/-
  Package pinfoldlaw08: act, its further cases. Conditions: a table, the document's rows beside it.
-/
import Derived.Test.YtchepkihlnpfeaaPgU
namespace Go.Proofs.Ytchepkihlnpfeaa
open Go.RowKit
attribute [local go_sem] Oper.semAt_some
set_option maxHeartbeats 4000000
set_option maxRecDepth 8000

structure A3S (s9 : Nat) (v9 : Value) (Y : World) : Prop where
  t : Y.cell? ⟨s9, 0, none⟩ = some v9
theorem act2_ok {w0 W : World} {b m : Nat} {v : Value} {D : Tb} (h : Pl w0 W b m v D) (hl : D.length ≤ 1000) (x : ActV) (hx : x.f0 = 2) :
    Calls Try.prog 14 #[.pointer (some ⟨b, 0, none⟩), .agg #[v], .agg #[.int .i64 x.f0, .int .i64 x.f1, .int .i64 x.f2, .int .i64 x.f3, .int .i64 x.f4, .int .i64 x.f5]] W fun e w' =>
      ∃ b' m' v', e = .returned (.tuple #[.pointer (some ⟨b', 0, none⟩), .agg #[v'], .bool true]) ∧ ActE w0 W w' b m b' m' v' (actD D x) := by
  obtain ⟨f0, f1, f2, f3, f4, f5⟩ := x
  dsimp only at hx ⊢
  obtain ⟨va, vc, rfl, _⟩ := h.r.len
  have hml := h.t.mp.lt
  obtain ⟨w1, hw1⟩ : ∃ w1, ((W.alloc (.cells #[.slice va D.length vc] 28)).alloc (.cells #[.int .i64 f0, .int .i64 f1, .int .i64 f2, .int .i64 f3, .int .i64 f4, .int .i64 f5] 45)).alloc (.cells #[.slice none 0 0] 28) = w1 := ⟨_, rfl⟩
  have k1 : Below W.heap.size W w1 := by rw [← hw1]; exact (((Below.refl _ W).alloc (Nat.le_refl _) _).alloc (by simp) _).alloc (by simp; omega) _
  have hA : AcI W w1 W.heap.size m (.slice va D.length vc) (.slice none 0 0) ⟨f0, f1, f2, f3, f4, f5⟩ := by
    refine ⟨?_, ?_, ?_, .of_below k1, hml, rfl, ?_⟩
    · rw [← hw1]; exact ((Blk.new W _ _).alloc _).alloc _
    · rw [← hw1]; exact (Blk.newAt _ _ _ (by simp)).alloc _
    · rw [← hw1]; exact Blk.newAt _ _ _ (by simp)
    · rw [← hw1]; simp
  have hP := h.step k1
  obtain ⟨s, hs⟩ : ∃ s, W.heap.size = s := ⟨_, rfl⟩
  have H := Lib.hid h
  rw [hs] at hA hml
  clear h k1
  have hD : actD D ⟨f0, f1, f2, f3, f4, f5⟩ = proD D f1 f4 := by unfold actD; dsimp only; rw [if_neg (by omega), if_neg (by omega), if_pos hx]
  have HD := Lib.hid hD
  clear hD
  subst hx
  have ls0 : s < w1.heap.size := hA.wt.lt
  have ls1 : s + 1 < w1.heap.size := hA.x.lt
  have ls2 : s + 1 + 1 < w1.heap.size := hA.r.lt
  have ct : w1.cell? ⟨s, 0, none⟩ = some (.slice va D.length vc) := hA.wt.cell 0 rfl
  have x0 : w1.cell? ⟨s + 1, 0, none⟩ = some (.int .i64 2) := hA.x.cell 0 rfl
  have x1 : w1.cell? ⟨s + 1, 1, none⟩ = some (.int .i64 f1) := hA.x.cell 1 rfl
  have x2 : w1.cell? ⟨s + 1, 2, none⟩ = some (.int .i64 f2) := hA.x.cell 2 rfl
  have x3 : w1.cell? ⟨s + 1, 3, none⟩ = some (.int .i64 f3) := hA.x.cell 3 rfl
  have x4 : w1.cell? ⟨s + 1, 4, none⟩ = some (.int .i64 f4) := hA.x.cell 4 rfl
  have x5 : w1.cell? ⟨s + 1, 5, none⟩ = some (.int .i64 f5) := hA.x.cell 5 rfl
  go_enter Try.func14, Try.ntmps14
  go_wp2_with fail
  refine (rProtect_ok _ D w1.heap.size f1 f4 w1 (Nat.le_refl _) (by omega) hP.g.srt hP.r).mono ?_; rintro e w2 ⟨v9, rfl, r2, k2⟩
  have hP2 := hP.step k2
  have hA2 := hA.step k2
  rw [← HD.out] at r2
  obtain ⟨E, hE⟩ : ∃ E, actD D ⟨2, f1, f2, f3, f4, f5⟩ = E := ⟨_, rfl⟩
  have HE := Lib.hid hE
  rw [hE] at r2 HD
  have hEg : Good E := by rw [← hE]; exact H.out.g.act _
  have hEl : E.length ≤ 1001 := by rw [← hE]; have := actD_len D ⟨2, f1, f2, f3, f4, f5⟩; omega
  clear hw1 ct x0 x1 x2 x3 x4 x5 ls0 ls1 ls2 hA hP k2 hE
  obtain ⟨oa, oc, rfl, _⟩ := r2.len
  have hA := hA2
  have ls0 : s < w2.heap.size := hA.wt.lt
  have ls1 : s + 1 < w2.heap.size := hA.x.lt
  have ls2 : s + 1 + 1 < w2.heap.size := hA.r.lt
  have ct : w2.cell? ⟨s, 0, none⟩ = some (.slice va D.length vc) := hA.wt.cell 0 rfl
  have x0 : w2.cell? ⟨s + 1, 0, none⟩ = some (.int .i64 2) := hA.x.cell 0 rfl
  have x1 : w2.cell? ⟨s + 1, 1, none⟩ = some (.int .i64 f1) := hA.x.cell 1 rfl
  have x2 : w2.cell? ⟨s + 1, 2, none⟩ = some (.int .i64 f2) := hA.x.cell 2 rfl
  have x3 : w2.cell? ⟨s + 1, 3, none⟩ = some (.int .i64 f3) := hA.x.cell 3 rfl
  have x4 : w2.cell? ⟨s + 1, 4, none⟩ = some (.int .i64 f4) := hA.x.cell 4 rfl
  have x5 : w2.cell? ⟨s + 1, 5, none⟩ = some (.int .i64 f5) := hA.x.cell 5 rfl
  have R2 := Lib.hid r2
  have z2 := hA2.z
  clear r2
  go_wp2_with fail
  have k3 : Below w2.heap.size w2 (w2.alloc (.cells #[.slice oa E.length oc] 28)) := (Below.refl _ w2).alloc (Nat.le_refl _) _
  have hT3 := Blk.new w2 #[.slice oa E.length oc] 28
  have hP3 := hP2.step k3
  have hA3 := hA2.step k3
  have hR3 := (R2.out.below k3 (Nat.le_refl _))
  clear hA hA2 hP2 R2 ct x0 x1 x2 x3 x4 x5 ls0 ls1 ls2
  obtain ⟨s9, hs9⟩ : ∃ s9, w2.heap.size = s9 := ⟨_, rfl⟩
  rw [hs9] at hT3 hR3 z2 ⊢
  generalize w2.alloc (.cells #[.slice oa E.length oc] 28) = w3 at hT3 hP3 hA3 hR3 ⊢
  clear k3 hs9
  refine (Protect_ok hP3.t hP3.g.srt f1 f4).mono ?_; rintro e w7 ⟨rfl, h7, k4⟩
  rw [← HD.out] at h7
  have hne : s9 ≠ m := by omega
  have hT7 := k4.blk hT3 hne
  have hA7 := hA3.chg k4
  have hR7 := hR3.chgm hP3.t.mp k4
  have hk7 := hP3.k.trans (k4.below hP3.lo hP3.k.size)
  have hlo := hP3.lo
  clear hP3 hA3 hR3 hT3 k4 hne
  go_wp2_with fail
  refine wp_onlyN ?_
  have hAd := hA7.step (Below.refl _ w7).drew
  have hTd := hT7.below (Below.refl _ w7).drew hT7.lt
  have hd := h7.step (Below.refl _ w7).drew
  have hRd := hR7.below (Below.refl w7.heap.size w7).drew (by have := hT7.lt; omega)
  have hkd : Below w0.heap.size w0 w7.drew := hk7.trans ((Below.refl w7.heap.size w7).drew.mono hk7.size)
  refine wp_region_held_drew (S := A3S s9 (.slice oa E.length oc)) (by kernel_rfl) ⟨hTd.cell 0 rfl⟩ (fun hHeld => ?_)
  clear hA7 hT7 h7 hR7 hk7
  change wpAnyH _ _ _ _ _ _ _ _ w7.drew
  generalize w7.drew = w8 at hAd hTd hd hRd hkd hHeld ⊢
  have cr : w8.cell? ⟨s + 1 + 1, 0, none⟩ = some (.slice none 0 0) := hAd.r.cell 0 rfl
  have fr := hAd.r.frozen 0
  have zR : s9 ≤ w8.heap.size := Nat.le_of_lt hTd.lt
  refine wpAnyH_take (i := 0) (v := ?_) rfl (by kernel_rfl) (by kernel_rfl) (by kernel_rfl) (fun _ _ _ h => h) (Or.inl ⟨by rfl, ?_⟩) (by assumption) ?_
  rotate_left
  · (intro Y hSw; (try dsimp only at hSw); obtain ⟨hS0⟩ := hSw; go_simp; try with_reducible rfl)
  try simp only [Act.put, List.getElem_toArray, List.getElem_cons_zero, List.getElem_cons_succ, List.setIfInBounds_toArray, List.set_cons_zero, List.set_cons_succ]
  refine wpAnyH_take (i := 1) (v := ?_) rfl (by kernel_rfl) (by kernel_rfl) (by kernel_rfl) (fun _ _ _ h => h) (Or.inl ⟨by rfl, ?_⟩) (by assumption) ?_
  rotate_left
  · (intro Y hSw; (try dsimp only at hSw); obtain ⟨hS0⟩ := hSw; go_simp; try with_reducible rfl)
  try simp only [Act.put, List.getElem_toArray, List.getElem_cons_zero, List.getElem_cons_succ, List.setIfInBounds_toArray, List.set_cons_zero, List.set_cons_succ]
  refine wpAnyH_take (i := 2) (v := ?_) rfl (by kernel_rfl) (by kernel_rfl) (by kernel_rfl) (fun _ _ _ h => h) (Or.inl ⟨by rfl, ?_⟩) (by assumption) ?_
  rotate_left
  · (intro Y hSw; (try dsimp only at hSw); obtain ⟨hS0⟩ := hSw; go_simp; try with_reducible rfl)
  try simp only [Act.put, List.getElem_toArray, List.getElem_cons_zero, List.getElem_cons_succ, List.setIfInBounds_toArray, List.set_cons_zero, List.set_cons_succ]
  refine wpAnyH_take (i := 3) (v := ?_) rfl (by kernel_rfl) (by kernel_rfl) (by kernel_rfl) (fun _ _ _ h => h) (Or.inl ⟨by rfl, ?_⟩) (by assumption) ?_
  rotate_left
  · (intro Y hSw; (try dsimp only at hSw); obtain ⟨hS0⟩ := hSw; go_simp; try with_reducible rfl)
  try simp only [Act.put, List.getElem_toArray, List.getElem_cons_zero, List.getElem_cons_succ, List.setIfInBounds_toArray, List.set_cons_zero, List.set_cons_succ]
  refine wpAnyH_take (i := 4) (v := ?_) rfl (by kernel_rfl) (by kernel_rfl) (by kernel_rfl) (fun _ _ _ h => h) (Or.inl ⟨by rfl, ?_⟩) (by assumption) ?_
  rotate_left
  · (intro Y hSw; (try dsimp only at hSw); obtain ⟨hS0⟩ := hSw; go_simp; try with_reducible rfl)
  try simp only [Act.put, List.getElem_toArray, List.getElem_cons_zero, List.getElem_cons_succ, List.setIfInBounds_toArray, List.set_cons_zero, List.set_cons_succ]
  refine wpAnyH_take (i := 5) (v := ?_) rfl (by kernel_rfl) (by kernel_rfl) (by kernel_rfl) (fun _ _ _ h => h) (Or.inl ⟨by rfl, ?_⟩) (by assumption) ?_
  rotate_left
  · (intro Y hSw; (try dsimp only at hSw); obtain ⟨hS0⟩ := hSw; go_simp; try with_reducible rfl)
  try simp only [Act.put, List.getElem_toArray, List.getElem_cons_zero, List.getElem_cons_succ, List.setIfInBounds_toArray, List.set_cons_zero, List.set_cons_succ]
  refine wpAnyH_take (i := 6) (v := ?_) rfl (by kernel_rfl) (by kernel_rfl) (by kernel_rfl) (fun _ _ _ h => h) (Or.inl ⟨by rfl, ?_⟩) (by assumption) ?_
  rotate_left
  · (intro Y hSw; (try dsimp only at hSw); obtain ⟨hS0⟩ := hSw; go_simp; try with_reducible rfl)
  try simp only [Act.put, List.getElem_toArray, List.getElem_cons_zero, List.getElem_cons_succ, List.setIfInBounds_toArray, List.set_cons_zero, List.set_cons_succ]
  refine wpAnyH_take (i := 8) (v := ?_) rfl (by kernel_rfl) (by kernel_rfl) (by kernel_rfl) (fun _ _ _ h => h) (Or.inl ⟨by rfl, ?_⟩) (by assumption) ?_
  rotate_left
  · (intro Y hSw; (try dsimp only at hSw); obtain ⟨hS0⟩ := hSw; go_simp; try with_reducible rfl)
  try simp only [Act.put, List.getElem_toArray, List.getElem_cons_zero, List.getElem_cons_succ, List.setIfInBounds_toArray, List.set_cons_zero, List.set_cons_succ]
  refine wpAnyH_ready (rs := [7]) (by kernel_rfl) (by simp) ?_
  refine AllReadyH.cons rfl (fun K hK => ?_) AllReadyH.nil
  go_simp
  refine (num_calls _ _).mono ?_; rintro e _ ⟨rfl, rfl⟩
  go_simp
  refine hK.out _ _ (hHeld) (fun hHeld => ?_)
  clear hK K
  try simp only [Act.put, List.getElem_toArray, List.getElem_cons_zero, List.getElem_cons_succ, List.setIfInBounds_toArray, List.set_cons_zero, List.set_cons_succ]
  refine wpAnyH_take (i := 9) (v := ?_) rfl (by kernel_rfl) (by kernel_rfl) (by kernel_rfl) (fun _ _ _ h => h) (Or.inl ⟨by rfl, ?_⟩) (by assumption) ?_
  rotate_left
  · (intro Y hSw; (try dsimp only at hSw); obtain ⟨hS0⟩ := hSw; go_simp; try with_reducible rfl)
  try simp only [Act.put, List.getElem_toArray, List.getElem_cons_zero, List.getElem_cons_succ, List.setIfInBounds_toArray, List.set_cons_zero, List.set_cons_succ]
  refine wpAnyH_take (i := 10) (v := ?_) rfl (by kernel_rfl) (by kernel_rfl) (by kernel_rfl) (fun _ _ _ h => h) (Or.inl ⟨by rfl, ?_⟩) (by assumption) ?_
  rotate_left
  · (intro Y hSw; (try dsimp only at hSw); obtain ⟨hS0⟩ := hSw; go_simp; try with_reducible rfl)
  try simp only [Act.put, List.getElem_toArray, List.getElem_cons_zero, List.getElem_cons_succ, List.setIfInBounds_toArray, List.set_cons_zero, List.set_cons_succ]
  refine wpAnyH_take (i := 11) (v := ?_) rfl (by kernel_rfl) (by kernel_rfl) (by kernel_rfl) (fun _ _ _ h => h) (Or.inl ⟨by rfl, ?_⟩) (by assumption) ?_
  rotate_left
  · (intro Y hSw; (try dsimp only at hSw); obtain ⟨hS0⟩ := hSw; go_simp; try with_reducible rfl)
  try simp only [Act.put, List.getElem_toArray, List.getElem_cons_zero, List.getElem_cons_succ, List.setIfInBounds_toArray, List.set_cons_zero, List.set_cons_succ]
  refine wpAnyH_ready (rs := [12]) (by kernel_rfl) (by simp) ?_
  refine AllReadyH.cons rfl (fun K hK => ?_) AllReadyH.nil
  go_simp
  have hA8 := hAd.set (.slice oa E.length oc)
  have hT8 := hTd.setOther ⟨s + 1 + 1, 0, none⟩ (.slice oa E.length oc) (by dsimp only; omega)
  refine hK.out _ _ (⟨hT8.cell 0 rfl⟩) (fun hHeld => ?_)
  clear hK K
  try simp only [Act.put, List.getElem_toArray, List.getElem_cons_zero, List.getElem_cons_succ, List.setIfInBounds_toArray, List.set_cons_zero, List.set_cons_succ]
  refine wpAnyH_take (i := 13) (v := ?_) rfl (by kernel_rfl) (by kernel_rfl) (by kernel_rfl) (fun _ _ _ h => h) (Or.inl ⟨by rfl, ?_⟩) (by assumption) ?_
  rotate_left
  · (intro Y hSw; (try dsimp only at hSw); obtain ⟨hS0⟩ := hSw; go_simp; try with_reducible rfl)
  try simp only [Act.put, List.getElem_toArray, List.getElem_cons_zero, List.getElem_cons_succ, List.setIfInBounds_toArray, List.set_cons_zero, List.set_cons_succ]
  refine wpAnyH_done (by kernel_rfl) ?_ _
  rw [onlyN_normal]
  have k8 : Below s w8 (w8.setCell ⟨s + 1 + 1, 0, none⟩ (.slice oa E.length oc)) := (Below.refl s w8).setCell (p := ⟨s + 1 + 1, 0, none⟩) (by dsimp only; omega) _
  have hbs : b < s := by have := H.out.t.blk.lt; omega
  have hd8 := hd.below k8 hbs hml
  have hR8 : RowAt (w8.setCell ⟨s + 1 + 1, 0, none⟩ (.slice oa E.length oc)).heap.size (w8.setCell ⟨s + 1 + 1, 0, none⟩ (.slice oa E.length oc)) (.slice oa E.length oc) E.length (rowT E) := (hRd.setBox hAd.r (fun i h => by cases h) _).mono (by simpa using zR)
  go_wp2_with fail
  exact ret_pt rfl (s + 1 + 1) rfl hA8.r rfl rfl ⟨b, m, _, rfl, by rw [HE.out]; exact ⟨⟨hd8, hEg, hR8, hkd.setCell (p := ⟨s + 1 + 1, 0, none⟩) (by dsimp only; omega) _, hlo⟩, hA8.c, .inl ⟨rfl, rfl⟩⟩⟩
theorem act4_ok {w0 W : World} {b m : Nat} {v : Value} {D : Tb} (h : Pl w0 W b m v D) (hl : D.length ≤ 1000) (x : ActV) (hx : x.f0 = 4) (hx1 : x.f1 ≤ 9223372036854775807) :
    Calls Try.prog 14 #[.pointer (some ⟨b, 0, none⟩), .agg #[v], .agg #[.int .i64 x.f0, .int .i64 x.f1, .int .i64 x.f2, .int .i64 x.f3, .int .i64 x.f4, .int .i64 x.f5]] W fun e w' =>
      ∃ b' m' v', e = .returned (.tuple #[.pointer (some ⟨b', 0, none⟩), .agg #[v'], .bool true]) ∧ ActE w0 W w' b m b' m' v' (actD D x) := by
  obtain ⟨f0, f1, f2, f3, f4, f5⟩ := x
  dsimp only at hx ⊢
  obtain ⟨va, vc, rfl, _⟩ := h.r.len
  have hml := h.t.mp.lt
  obtain ⟨w1, hw1⟩ : ∃ w1, ((W.alloc (.cells #[.slice va D.length vc] 28)).alloc (.cells #[.int .i64 f0, .int .i64 f1, .int .i64 f2, .int .i64 f3, .int .i64 f4, .int .i64 f5] 45)).alloc (.cells #[.slice none 0 0] 28) = w1 := ⟨_, rfl⟩
  have k1 : Below W.heap.size W w1 := by rw [← hw1]; exact (((Below.refl _ W).alloc (Nat.le_refl _) _).alloc (by simp) _).alloc (by simp; omega) _
  have hA : AcI W w1 W.heap.size m (.slice va D.length vc) (.slice none 0 0) ⟨f0, f1, f2, f3, f4, f5⟩ := by
    refine ⟨?_, ?_, ?_, .of_below k1, hml, rfl, ?_⟩
    · rw [← hw1]; exact ((Blk.new W _ _).alloc _).alloc _
    · rw [← hw1]; exact (Blk.newAt _ _ _ (by simp)).alloc _
    · rw [← hw1]; exact Blk.newAt _ _ _ (by simp)
    · rw [← hw1]; simp
  have hP := h.step k1
  obtain ⟨s, hs⟩ : ∃ s, W.heap.size = s := ⟨_, rfl⟩
  have H := Lib.hid h
  rw [hs] at hA hml
  clear h k1
  dsimp only at hx1
  have hD : actD D ⟨f0, f1, f2, f3, f4, f5⟩ = D := by unfold actD; dsimp only; rw [if_neg (by omega), if_neg (by omega), if_neg (by omega)]
  have HE := Lib.hid hD
  have hEg := H.out.g
  have hlo := hP.lo
  clear hD
  subst hx
  have ls0 : s < w1.heap.size := hA.wt.lt
  have ls1 : s + 1 < w1.heap.size := hA.x.lt
  have ls2 : s + 1 + 1 < w1.heap.size := hA.r.lt
  have ct : w1.cell? ⟨s, 0, none⟩ = some (.slice va D.length vc) := hA.wt.cell 0 rfl
  have x0 : w1.cell? ⟨s + 1, 0, none⟩ = some (.int .i64 4) := hA.x.cell 0 rfl
  have x1 : w1.cell? ⟨s + 1, 1, none⟩ = some (.int .i64 f1) := hA.x.cell 1 rfl
  have x2 : w1.cell? ⟨s + 1, 2, none⟩ = some (.int .i64 f2) := hA.x.cell 2 rfl
  have x3 : w1.cell? ⟨s + 1, 3, none⟩ = some (.int .i64 f3) := hA.x.cell 3 rfl
  have x4 : w1.cell? ⟨s + 1, 4, none⟩ = some (.int .i64 f4) := hA.x.cell 4 rfl
  have x5 : w1.cell? ⟨s + 1, 5, none⟩ = some (.int .i64 f5) := hA.x.cell 5 rfl
  go_enter Try.func14, Try.ntmps14
  go_wp2_with fail
  clear hw1
  refine (Next_ok hP.t hP.g (by omega) f1 f2 hx1).mono ?_; rintro e w2 ⟨rfl, k2⟩
  have hP2 := hP.step k2
  have hA2 := hA.step k2
  clear ct x0 x1 x2 x3 x4 x5 ls0 ls1 ls2 hP hA k2
  have hA := hA2
  have ls0 : s < w2.heap.size := hA.wt.lt
  have ls1 : s + 1 < w2.heap.size := hA.x.lt
  have ls2 : s + 1 + 1 < w2.heap.size := hA.r.lt
  have ct : w2.cell? ⟨s, 0, none⟩ = some (.slice va D.length vc) := hA.wt.cell 0 rfl
  have x0 : w2.cell? ⟨s + 1, 0, none⟩ = some (.int .i64 4) := hA.x.cell 0 rfl
  have x1 : w2.cell? ⟨s + 1, 1, none⟩ = some (.int .i64 f1) := hA.x.cell 1 rfl
  have x2 : w2.cell? ⟨s + 1, 2, none⟩ = some (.int .i64 f2) := hA.x.cell 2 rfl
  have x3 : w2.cell? ⟨s + 1, 3, none⟩ = some (.int .i64 f3) := hA.x.cell 3 rfl
  have x4 : w2.cell? ⟨s + 1, 4, none⟩ = some (.int .i64 f4) := hA.x.cell 4 rfl
  have x5 : w2.cell? ⟨s + 1, 5, none⟩ = some (.int .i64 f5) := hA.x.cell 5 rfl
  go_wp2_with fail
  refine (rNext_ok _ D w2.heap.size f1 f2 w2 (Nat.le_refl _) (by omega) hP2.g hx1 hP2.r).mono ?_; rintro e w7 ⟨rfl, k7⟩
  have hP7 := hP2.step k7
  have hA7 := hA2.step k7
  clear ct x0 x1 x2 x3 x4 x5 ls0 ls1 ls2 hP2 hA2 hA k7
  have hnb : nxB D f1 f2 = decide (0 ≤ nextI D f1 f2) := rfl
  have hnv : nxV D f1 f2 = max 0 (nextI D f1 f2) := rfl
  rw [hnb, hnv]
  generalize nextI D f1 f2 = nn
  clear hnb hnv
  go_wp2_with fail
  refine wp_onlyN ?_
  have hAd := hA7.step (Below.refl _ w7).drew
  have hPd := hP7.step (Below.refl _ w7).drew
  refine wp_region_held_drew (S := A3S s (.slice va D.length vc)) (by kernel_rfl) ⟨hAd.wt.cell 0 rfl⟩ (fun hHeld => ?_)
  clear hA7 hP7
  change wpAnyH _ _ _ _ _ _ _ _ w7.drew
  generalize w7.drew = w8 at hAd hPd hHeld ⊢
  have cr : w8.cell? ⟨s + 1 + 1, 0, none⟩ = some (.slice none 0 0) := hAd.r.cell 0 rfl
  have fr := hAd.r.frozen 0
  refine wpAnyH_take (i := 0) (v := ?_) rfl (by kernel_rfl) (by kernel_rfl) (by kernel_rfl) (fun _ _ _ h => h) (Or.inl ⟨by rfl, ?_⟩) (by assumption) ?_
  rotate_left
  · (intro Y hSw; (try dsimp only at hSw); obtain ⟨hS0⟩ := hSw; go_simp; try with_reducible rfl)
  try simp only [Act.put, List.getElem_toArray, List.getElem_cons_zero, List.getElem_cons_succ, List.setIfInBounds_toArray, List.set_cons_zero, List.set_cons_succ]
  refine wpAnyH_take (i := 1) (v := ?_) rfl (by kernel_rfl) (by kernel_rfl) (by kernel_rfl) (fun _ _ _ h => h) (Or.inl ⟨by rfl, ?_⟩) (by assumption) ?_
  rotate_left
  · (intro Y hSw; (try dsimp only at hSw); obtain ⟨hS0⟩ := hSw; go_simp; try with_reducible rfl)
  try simp only [Act.put, List.getElem_toArray, List.getElem_cons_zero, List.getElem_cons_succ, List.setIfInBounds_toArray, List.set_cons_zero, List.set_cons_succ]
  refine wpAnyH_take (i := 2) (v := ?_) rfl (by kernel_rfl) (by kernel_rfl) (by kernel_rfl) (fun _ _ _ h => h) (Or.inl ⟨by rfl, ?_⟩) (by assumption) ?_
  rotate_left
  · (intro Y hSw; (try dsimp only at hSw); obtain ⟨hS0⟩ := hSw; go_simp; try with_reducible rfl)
  try simp only [Act.put, List.getElem_toArray, List.getElem_cons_zero, List.getElem_cons_succ, List.setIfInBounds_toArray, List.set_cons_zero, List.set_cons_succ]
  refine wpAnyH_take (i := 3) (v := ?_) rfl (by kernel_rfl) (by kernel_rfl) (by kernel_rfl) (fun _ _ _ h => h) (Or.inl ⟨by rfl, ?_⟩) (by assumption) ?_
  rotate_left
  · (intro Y hSw; (try dsimp only at hSw); obtain ⟨hS0⟩ := hSw; go_simp; try with_reducible rfl)
  try simp only [Act.put, List.getElem_toArray, List.getElem_cons_zero, List.getElem_cons_succ, List.setIfInBounds_toArray, List.set_cons_zero, List.set_cons_succ]
  refine wpAnyH_take (i := 4) (v := ?_) rfl (by kernel_rfl) (by kernel_rfl) (by kernel_rfl) (fun _ _ _ h => h) (Or.inl ⟨by rfl, ?_⟩) (by assumption) ?_
  rotate_left
  · (intro Y hSw; (try dsimp only at hSw); obtain ⟨hS0⟩ := hSw; go_simp; try with_reducible rfl)
  try simp only [Act.put, List.getElem_toArray, List.getElem_cons_zero, List.getElem_cons_succ, List.setIfInBounds_toArray, List.set_cons_zero, List.set_cons_succ]
  refine wpAnyH_take (i := 5) (v := ?_) rfl (by kernel_rfl) (by kernel_rfl) (by kernel_rfl) (fun _ _ _ h => h) (Or.inl ⟨by rfl, ?_⟩) (by assumption) ?_
  rotate_left
  · (intro Y hSw; (try dsimp only at hSw); obtain ⟨hS0⟩ := hSw; go_simp; try with_reducible rfl)
  try simp only [Act.put, List.getElem_toArray, List.getElem_cons_zero, List.getElem_cons_succ, List.setIfInBounds_toArray, List.set_cons_zero, List.set_cons_succ]
  refine wpAnyH_take (i := 6) (v := ?_) rfl (by kernel_rfl) (by kernel_rfl) (by kernel_rfl) (fun _ _ _ h => h) (Or.inl ⟨by rfl, ?_⟩) (by assumption) ?_
  rotate_left
  · (intro Y hSw; (try dsimp only at hSw); obtain ⟨hS0⟩ := hSw; go_simp; try with_reducible rfl)
  try simp only [Act.put, List.getElem_toArray, List.getElem_cons_zero, List.getElem_cons_succ, List.setIfInBounds_toArray, List.set_cons_zero, List.set_cons_succ]
  refine wpAnyH_take (i := 7) (v := ?_) rfl (by kernel_rfl) (by kernel_rfl) (by kernel_rfl) (fun _ _ _ h => h) (Or.inl ⟨by rfl, ?_⟩) (by assumption) ?_
  rotate_left
  · (intro Y hSw; (try dsimp only at hSw); obtain ⟨hS0⟩ := hSw; go_simp; try with_reducible rfl)
  try simp only [Act.put, List.getElem_toArray, List.getElem_cons_zero, List.getElem_cons_succ, List.setIfInBounds_toArray, List.set_cons_zero, List.set_cons_succ]
  refine wpAnyH_take (i := 8) (v := ?_) rfl (by kernel_rfl) (by kernel_rfl) (by kernel_rfl) (fun _ _ _ h => h) (Or.inl ⟨by rfl, ?_⟩) (by assumption) ?_
  rotate_left
  · (intro Y hSw; (try dsimp only at hSw); obtain ⟨hS0⟩ := hSw; go_simp; try with_reducible rfl)
  try simp only [Act.put, List.getElem_toArray, List.getElem_cons_zero, List.getElem_cons_succ, List.setIfInBounds_toArray, List.set_cons_zero, List.set_cons_succ]
  refine wpAnyH_take (i := 9) (v := ?_) rfl (by kernel_rfl) (by kernel_rfl) (by kernel_rfl) (fun _ _ _ h => h) (Or.inl ⟨by rfl, ?_⟩) (by assumption) ?_
  rotate_left
  · (intro Y hSw; (try dsimp only at hSw); obtain ⟨hS0⟩ := hSw; go_simp; try with_reducible rfl)
  try simp only [Act.put, List.getElem_toArray, List.getElem_cons_zero, List.getElem_cons_succ, List.setIfInBounds_toArray, List.set_cons_zero, List.set_cons_succ]
  refine wpAnyH_take (i := 10) (v := ?_) rfl (by kernel_rfl) (by kernel_rfl) (by kernel_rfl) (fun _ _ _ h => h) (Or.inl ⟨by rfl, ?_⟩) (by assumption) ?_
  rotate_left
  · (intro Y hSw; (try dsimp only at hSw); obtain ⟨hS0⟩ := hSw; go_simp; try with_reducible rfl)
  try simp only [Act.put, List.getElem_toArray, List.getElem_cons_zero, List.getElem_cons_succ, List.setIfInBounds_toArray, List.set_cons_zero, List.set_cons_succ]
  refine wpAnyH_take (i := 11) (v := ?_) rfl (by kernel_rfl) (by kernel_rfl) (by kernel_rfl) (fun _ _ _ h => h) (Or.inl ⟨by rfl, ?_⟩) (by assumption) ?_
  rotate_left
  · (intro Y hSw; (try dsimp only at hSw); obtain ⟨hS0⟩ := hSw; go_simp; try with_reducible rfl)
  try simp only [Act.put, List.getElem_toArray, List.getElem_cons_zero, List.getElem_cons_succ, List.setIfInBounds_toArray, List.set_cons_zero, List.set_cons_succ]
  refine wpAnyH_take (i := 12) (v := ?_) rfl (by kernel_rfl) (by kernel_rfl) (by kernel_rfl) (fun _ _ _ h => h) (Or.inl ⟨by rfl, ?_⟩) (by assumption) ?_
  rotate_left
  · (intro Y hSw; (try dsimp only at hSw); obtain ⟨hS0⟩ := hSw; go_simp; try with_reducible rfl)
  try simp only [Act.put, List.getElem_toArray, List.getElem_cons_zero, List.getElem_cons_succ, List.setIfInBounds_toArray, List.set_cons_zero, List.set_cons_succ]
  refine wpAnyH_ready (rs := [13]) (by kernel_rfl) (by simp) ?_
  refine AllReadyH.cons rfl (fun K hK => ?_) AllReadyH.nil
  go_simp
  have hA8 := hAd.set (.slice va D.length vc)
  refine hK.out _ _ (⟨hA8.wt.cell 0 rfl⟩) (fun hHeld => ?_)
  clear hK K
  try simp only [Act.put, List.getElem_toArray, List.getElem_cons_zero, List.getElem_cons_succ, List.setIfInBounds_toArray, List.set_cons_zero, List.set_cons_succ]
  refine wpAnyH_take (i := 14) (v := ?_) rfl (by kernel_rfl) (by kernel_rfl) (by kernel_rfl) (fun _ _ _ h => h) (Or.inl ⟨by rfl, ?_⟩) (by assumption) ?_
  rotate_left
  · (intro Y hSw; (try dsimp only at hSw); obtain ⟨hS0⟩ := hSw; go_simp; try with_reducible rfl)
  try simp only [Act.put, List.getElem_toArray, List.getElem_cons_zero, List.getElem_cons_succ, List.setIfInBounds_toArray, List.set_cons_zero, List.set_cons_succ]
  refine wpAnyH_done (by kernel_rfl) ?_ _
  rw [onlyN_normal]
  have k8 : Below s w8 (w8.setCell ⟨s + 1 + 1, 0, none⟩ (.slice va D.length vc)) := (Below.refl s w8).setCell (p := ⟨s + 1 + 1, 0, none⟩) (by dsimp only; omega) _
  have hbs : b < s := by have := H.out.t.blk.lt; omega
  have hd8 := hPd.t.below k8 hbs hml
  have hR8 : RowAt (w8.setCell ⟨s + 1 + 1, 0, none⟩ (.slice va D.length vc)).heap.size (w8.setCell ⟨s + 1 + 1, 0, none⟩ (.slice va D.length vc)) (.slice va D.length vc) D.length (rowT D) := (hPd.r.setBox hAd.r (fun i h => by cases h) _).mono (by simp)
  go_wp2_with fail
  exact ret_pt rfl (s + 1 + 1) rfl hA8.r rfl rfl ⟨b, m, _, rfl, by rw [HE.out]; exact ⟨⟨hd8, hEg, hR8, hPd.k.setCell (p := ⟨s + 1 + 1, 0, none⟩) (by dsimp only; omega) _, hlo⟩, hA8.c, .inl ⟨rfl, rfl⟩⟩⟩
structure A4S (s : Nat) (f1 f2 : Int) (v9 : Value) (Y : World) : Prop where
  t : Y.cell? ⟨s, 0, none⟩ = some v9
  x1 : Y.cell? ⟨s + 1, 1, none⟩ = some (.int .i64 f1)
  x2 : Y.cell? ⟨s + 1, 2, none⟩ = some (.int .i64 f2)
theorem act3_ok {w0 W : World} {b m : Nat} {v : Value} {D : Tb} (h : Pl w0 W b m v D) (hl : D.length ≤ 1000) (x : ActV) (hx : x.f0 = 3) (hx1 : x.f1 ≤ 9223372036854775807) :
    Calls Try.prog 14 #[.pointer (some ⟨b, 0, none⟩), .agg #[v], .agg #[.int .i64 x.f0, .int .i64 x.f1, .int .i64 x.f2, .int .i64 x.f3, .int .i64 x.f4, .int .i64 x.f5]] W fun e w' =>
      ∃ b' m' v', e = .returned (.tuple #[.pointer (some ⟨b', 0, none⟩), .agg #[v'], .bool true]) ∧ ActE w0 W w' b m b' m' v' (actD D x) := by
  obtain ⟨f0, f1, f2, f3, f4, f5⟩ := x
  dsimp only at hx ⊢
  obtain ⟨va, vc, rfl, _⟩ := h.r.len
  have hml := h.t.mp.lt
  obtain ⟨w1, hw1⟩ : ∃ w1, ((W.alloc (.cells #[.slice va D.length vc] 28)).alloc (.cells #[.int .i64 f0, .int .i64 f1, .int .i64 f2, .int .i64 f3, .int .i64 f4, .int .i64 f5] 45)).alloc (.cells #[.slice none 0 0] 28) = w1 := ⟨_, rfl⟩
  have k1 : Below W.heap.size W w1 := by rw [← hw1]; exact (((Below.refl _ W).alloc (Nat.le_refl _) _).alloc (by simp) _).alloc (by simp; omega) _
  have hA : AcI W w1 W.heap.size m (.slice va D.length vc) (.slice none 0 0) ⟨f0, f1, f2, f3, f4, f5⟩ := by
    refine ⟨?_, ?_, ?_, .of_below k1, hml, rfl, ?_⟩
    · rw [← hw1]; exact ((Blk.new W _ _).alloc _).alloc _
    · rw [← hw1]; exact (Blk.newAt _ _ _ (by simp)).alloc _
    · rw [← hw1]; exact Blk.newAt _ _ _ (by simp)
    · rw [← hw1]; simp
  have hP := h.step k1
  obtain ⟨s, hs⟩ : ∃ s, W.heap.size = s := ⟨_, rfl⟩
  have H := Lib.hid h
  rw [hs] at hA hml
  clear h k1
  dsimp only at hx1
  have hD : actD D ⟨f0, f1, f2, f3, f4, f5⟩ = D := by unfold actD; dsimp only; rw [if_neg (by omega), if_neg (by omega), if_neg (by omega)]
  have HE := Lib.hid hD
  have hEg := H.out.g
  have hlo := hP.lo
  clear hD
  subst hx
  have ls0 : s < w1.heap.size := hA.wt.lt
  have ls1 : s + 1 < w1.heap.size := hA.x.lt
  have ls2 : s + 1 + 1 < w1.heap.size := hA.r.lt
  have ct : w1.cell? ⟨s, 0, none⟩ = some (.slice va D.length vc) := hA.wt.cell 0 rfl
  have x0 : w1.cell? ⟨s + 1, 0, none⟩ = some (.int .i64 3) := hA.x.cell 0 rfl
  have x1 : w1.cell? ⟨s + 1, 1, none⟩ = some (.int .i64 f1) := hA.x.cell 1 rfl
  have x2 : w1.cell? ⟨s + 1, 2, none⟩ = some (.int .i64 f2) := hA.x.cell 2 rfl
  have x3 : w1.cell? ⟨s + 1, 3, none⟩ = some (.int .i64 f3) := hA.x.cell 3 rfl
  have x4 : w1.cell? ⟨s + 1, 4, none⟩ = some (.int .i64 f4) := hA.x.cell 4 rfl
  have x5 : w1.cell? ⟨s + 1, 5, none⟩ = some (.int .i64 f5) := hA.x.cell 5 rfl
  go_enter Try.func14, Try.ntmps14
  go_wp2_with fail
  clear hw1
  refine (Free_ok hP.t hP.g (by omega) f1 f2 hx1).mono ?_; rintro e w7 ⟨rfl, k7⟩
  have hP7 := hP.step k7
  have hA7 := hA.step k7
  clear ct x0 x1 x2 x3 x4 x5 ls0 ls1 ls2 hP hA k7
  have hA := hA7
  have ls0 : s < w7.heap.size := hA.wt.lt
  have ls1 : s + 1 < w7.heap.size := hA.x.lt
  have ls2 : s + 1 + 1 < w7.heap.size := hA.r.lt
  have ct : w7.cell? ⟨s, 0, none⟩ = some (.slice va D.length vc) := hA.wt.cell 0 rfl
  have x0 : w7.cell? ⟨s + 1, 0, none⟩ = some (.int .i64 3) := hA.x.cell 0 rfl
  have x1 : w7.cell? ⟨s + 1, 1, none⟩ = some (.int .i64 f1) := hA.x.cell 1 rfl
  have x2 : w7.cell? ⟨s + 1, 2, none⟩ = some (.int .i64 f2) := hA.x.cell 2 rfl
  have x3 : w7.cell? ⟨s + 1, 3, none⟩ = some (.int .i64 f3) := hA.x.cell 3 rfl
  have x4 : w7.cell? ⟨s + 1, 4, none⟩ = some (.int .i64 f4) := hA.x.cell 4 rfl
  have x5 : w7.cell? ⟨s + 1, 5, none⟩ = some (.int .i64 f5) := hA.x.cell 5 rfl
  by_cases h1 : f2 < 1
  · have he : freE f1 f2 = 2 := by unfold freE; rw [if_pos h1]
    have hb : frB D f1 f2 = false := by unfold frB; rw [he]; rfl
    rw [he, hb]
    clear he hb
    go_wp2_with fail
    refine wp_onlyN ?_
    have hAd := hA7.step (Below.refl _ w7).drew
    have hPd := hP7.step (Below.refl _ w7).drew
    refine wp_region_held_drew (S := A4S s f1 f2 (.slice va D.length vc)) (by kernel_rfl) ⟨hAd.wt.cell 0 rfl, hAd.x.cell 1 rfl, hAd.x.cell 2 rfl⟩ (fun hHeld => ?_)
    clear hA7 hP7 ct x0 x1 x2 x3 x4 x5 ls0 ls1 ls2
    change wpAnyH _ _ _ _ _ _ _ _ w7.drew
    generalize w7.drew = w8 at hAd hPd hHeld ⊢
    have cr : w8.cell? ⟨s + 1 + 1, 0, none⟩ = some (.slice none 0 0) := hAd.r.cell 0 rfl
    have fr := hAd.r.frozen 0
    refine wpAnyH_take (i := 0) (v := ?_) rfl (by kernel_rfl) (by kernel_rfl) (by kernel_rfl) (fun _ _ _ h => h) (Or.inl ⟨by rfl, ?_⟩) (by assumption) ?_
    rotate_left
    · (intro Y hSw; (try dsimp only at hSw); obtain ⟨hS0, hS1, hS2⟩ := hSw; go_simp; try with_reducible rfl)
    try simp only [Act.put, List.getElem_toArray, List.getElem_cons_zero, List.getElem_cons_succ, List.setIfInBounds_toArray, List.set_cons_zero, List.set_cons_succ]
    refine wpAnyH_take (i := 1) (v := ?_) rfl (by kernel_rfl) (by kernel_rfl) (by kernel_rfl) (fun _ _ _ h => h) (Or.inl ⟨by rfl, ?_⟩) (by assumption) ?_
    rotate_left
    · (intro Y hSw; (try dsimp only at hSw); obtain ⟨hS0, hS1, hS2⟩ := hSw; go_simp; try with_reducible rfl)
    try simp only [Act.put, List.getElem_toArray, List.getElem_cons_zero, List.getElem_cons_succ, List.setIfInBounds_toArray, List.set_cons_zero, List.set_cons_succ]
    refine wpAnyH_take (i := 2) (v := ?_) rfl (by kernel_rfl) (by kernel_rfl) (by kernel_rfl) (fun _ _ _ h => h) (Or.inl ⟨by rfl, ?_⟩) (by assumption) ?_
    rotate_left
    · (intro Y hSw; (try dsimp only at hSw); obtain ⟨hS0, hS1, hS2⟩ := hSw; go_simp; try with_reducible rfl)
    try simp only [Act.put, List.getElem_toArray, List.getElem_cons_zero, List.getElem_cons_succ, List.setIfInBounds_toArray, List.set_cons_zero, List.set_cons_succ]
    refine wpAnyH_take (i := 4) (v := ?_) rfl (by kernel_rfl) (by kernel_rfl) (by kernel_rfl) (fun _ _ _ h => h) (Or.inl ⟨by rfl, ?_⟩) (by assumption) ?_
    rotate_left
    · (intro Y hSw; (try dsimp only at hSw); obtain ⟨hS0, hS1, hS2⟩ := hSw; go_simp; try with_reducible rfl)
    try simp only [Act.put, List.getElem_toArray, List.getElem_cons_zero, List.getElem_cons_succ, List.setIfInBounds_toArray, List.set_cons_zero, List.set_cons_succ]
    refine wpAnyH_ready (rs := [3]) (by kernel_rfl) (by simp) ?_
    refine AllReadyH.cons rfl (fun K hK => ?_) AllReadyH.nil
    go_simp
    refine (num_calls _ _).mono ?_; rintro e _ ⟨rfl, rfl⟩
    go_simp
    refine hK.out _ _ (hHeld) (fun hHeld => ?_)
    clear hK K
    try simp only [Act.put, List.getElem_toArray, List.getElem_cons_zero, List.getElem_cons_succ, List.setIfInBounds_toArray, List.set_cons_zero, List.set_cons_succ]
    refine wpAnyH_take (i := 5) (v := ?_) rfl (by kernel_rfl) (by kernel_rfl) (by kernel_rfl) (fun _ _ _ h => h) (Or.inl ⟨by rfl, ?_⟩) (by assumption) ?_
    rotate_left
    · (intro Y hSw; (try dsimp only at hSw); obtain ⟨hS0, hS1, hS2⟩ := hSw; go_simp; try with_reducible rfl)
    try simp only [Act.put, List.getElem_toArray, List.getElem_cons_zero, List.getElem_cons_succ, List.setIfInBounds_toArray, List.set_cons_zero, List.set_cons_succ]
    refine wpAnyH_take (i := 6) (v := ?_) rfl (by kernel_rfl) (by kernel_rfl) (by kernel_rfl) (fun _ _ _ h => h) (Or.inl ⟨by rfl, ?_⟩) (by assumption) ?_
    rotate_left
    · (intro Y hSw; (try dsimp only at hSw); obtain ⟨hS0, hS1, hS2⟩ := hSw; go_simp; try with_reducible rfl)
    try simp only [Act.put, List.getElem_toArray, List.getElem_cons_zero, List.getElem_cons_succ, List.setIfInBounds_toArray, List.set_cons_zero, List.set_cons_succ]
    refine wpAnyH_take (i := 7) (v := ?_) rfl (by kernel_rfl) (by kernel_rfl) (by kernel_rfl) (fun _ _ _ h => h) (Or.inl ⟨by rfl, ?_⟩) (by assumption) ?_
    rotate_left
    · (intro Y hSw; (try dsimp only at hSw); obtain ⟨hS0, hS1, hS2⟩ := hSw; go_simp; try with_reducible rfl)
    try simp only [Act.put, List.getElem_toArray, List.getElem_cons_zero, List.getElem_cons_succ, List.setIfInBounds_toArray, List.set_cons_zero, List.set_cons_succ]
    refine wpAnyH_take (i := 8) (v := ?_) rfl (by kernel_rfl) (by kernel_rfl) (by kernel_rfl) (fun _ _ _ h => h) (Or.inl ⟨by rfl, ?_⟩) (by assumption) ?_
    rotate_left
    · (intro Y hSw; (try dsimp only at hSw); obtain ⟨hS0, hS1, hS2⟩ := hSw; go_simp; try with_reducible rfl)
    try simp only [Act.put, List.getElem_toArray, List.getElem_cons_zero, List.getElem_cons_succ, List.setIfInBounds_toArray, List.set_cons_zero, List.set_cons_succ]
    refine wpAnyH_take (i := 9) (v := ?_) rfl (by kernel_rfl) (by kernel_rfl) (by kernel_rfl) (fun _ _ _ h => h) (Or.inl ⟨by rfl, ?_⟩) (by assumption) ?_
    rotate_left
    · (intro Y hSw; (try dsimp only at hSw); obtain ⟨hS0, hS1, hS2⟩ := hSw; go_simp; try with_reducible rfl)
    try simp only [Act.put, List.getElem_toArray, List.getElem_cons_zero, List.getElem_cons_succ, List.setIfInBounds_toArray, List.set_cons_zero, List.set_cons_succ]
    refine wpAnyH_take (i := 10) (v := ?_) rfl (by kernel_rfl) (by kernel_rfl) (by kernel_rfl) (fun _ _ _ h => h) (Or.inl ⟨by rfl, ?_⟩) (by assumption) ?_
    rotate_left
    · (intro Y hSw; (try dsimp only at hSw); obtain ⟨hS0, hS1, hS2⟩ := hSw; go_simp; try with_reducible rfl)
    try simp only [Act.put, List.getElem_toArray, List.getElem_cons_zero, List.getElem_cons_succ, List.setIfInBounds_toArray, List.set_cons_zero, List.set_cons_succ]
    refine wpAnyH_take (i := 11) (v := undef) rfl (by kernel_rfl) (by kernel_rfl) (by kernel_rfl) (fun _ _ _ h => h) (Or.inr ⟨by rfl, rfl⟩) (by assumption) ?_
    try simp only [Act.put, List.getElem_toArray, List.getElem_cons_zero, List.getElem_cons_succ, List.setIfInBounds_toArray, List.set_cons_zero, List.set_cons_succ]
    refine wpAnyH_take (i := 12) (v := undef) rfl (by kernel_rfl) (by kernel_rfl) (by kernel_rfl) (fun _ _ _ h => h) (Or.inr ⟨by rfl, rfl⟩) (by assumption) ?_
    try simp only [Act.put, List.getElem_toArray, List.getElem_cons_zero, List.getElem_cons_succ, List.setIfInBounds_toArray, List.set_cons_zero, List.set_cons_succ]
    refine wpAnyH_take (i := 13) (v := undef) rfl (by kernel_rfl) (by kernel_rfl) (by kernel_rfl) (fun _ _ _ h => h) (Or.inr ⟨by rfl, rfl⟩) (by assumption) ?_
    try simp only [Act.put, List.getElem_toArray, List.getElem_cons_zero, List.getElem_cons_succ, List.setIfInBounds_toArray, List.set_cons_zero, List.set_cons_succ]
    refine wpAnyH_take (i := 14) (v := undef) rfl (by kernel_rfl) (by kernel_rfl) (by kernel_rfl) (fun _ _ _ h => h) (Or.inr ⟨by rfl, rfl⟩) (by assumption) ?_
    try simp only [Act.put, List.getElem_toArray, List.getElem_cons_zero, List.getElem_cons_succ, List.setIfInBounds_toArray, List.set_cons_zero, List.set_cons_succ]
    refine wpAnyH_take (i := 15) (v := undef) rfl (by kernel_rfl) (by kernel_rfl) (by kernel_rfl) (fun _ _ _ h => h) (Or.inr ⟨by rfl, rfl⟩) (by assumption) ?_
    try simp only [Act.put, List.getElem_toArray, List.getElem_cons_zero, List.getElem_cons_succ, List.setIfInBounds_toArray, List.set_cons_zero, List.set_cons_succ]
    refine wpAnyH_take (i := 16) (v := undef) rfl (by kernel_rfl) (by kernel_rfl) (by kernel_rfl) (fun _ _ _ h => h) (Or.inr ⟨by rfl, rfl⟩) (by assumption) ?_
    try simp only [Act.put, List.getElem_toArray, List.getElem_cons_zero, List.getElem_cons_succ, List.setIfInBounds_toArray, List.set_cons_zero, List.set_cons_succ]
    refine wpAnyH_take (i := 17) (v := ?_) rfl (by kernel_rfl) (by kernel_rfl) (by kernel_rfl) (fun _ _ _ h => h) (Or.inl ⟨by rfl, ?_⟩) (by assumption) ?_
    rotate_left
    · (intro Y hSw; (try dsimp only at hSw); obtain ⟨hS0, hS1, hS2⟩ := hSw; go_simp; try with_reducible rfl)
    try simp only [Act.put, List.getElem_toArray, List.getElem_cons_zero, List.getElem_cons_succ, List.setIfInBounds_toArray, List.set_cons_zero, List.set_cons_succ]
    refine wpAnyH_take (i := 18) (v := ?_) rfl (by kernel_rfl) (by kernel_rfl) (by kernel_rfl) (fun _ _ _ h => h) (Or.inl ⟨by rfl, ?_⟩) (by assumption) ?_
    rotate_left
    · (intro Y hSw; (try dsimp only at hSw); obtain ⟨hS0, hS1, hS2⟩ := hSw; go_simp; try with_reducible rfl)
    try simp only [Act.put, List.getElem_toArray, List.getElem_cons_zero, List.getElem_cons_succ, List.setIfInBounds_toArray, List.set_cons_zero, List.set_cons_succ]
    refine wpAnyH_take (i := 19) (v := ?_) rfl (by kernel_rfl) (by kernel_rfl) (by kernel_rfl) (fun _ _ _ h => h) (Or.inl ⟨by rfl, ?_⟩) (by assumption) ?_
    rotate_left
    · (intro Y hSw; (try dsimp only at hSw); obtain ⟨hS0, hS1, hS2⟩ := hSw; go_simp; try with_reducible rfl)
    try simp only [Act.put, List.getElem_toArray, List.getElem_cons_zero, List.getElem_cons_succ, List.setIfInBounds_toArray, List.set_cons_zero, List.set_cons_succ]
    refine wpAnyH_take (i := 20) (v := ?_) rfl (by kernel_rfl) (by kernel_rfl) (by kernel_rfl) (fun _ _ _ h => h) (Or.inl ⟨by rfl, ?_⟩) (by assumption) ?_
    rotate_left
    · (intro Y hSw; (try dsimp only at hSw); obtain ⟨hS0, hS1, hS2⟩ := hSw; go_simp; try with_reducible rfl)
    try simp only [Act.put, List.getElem_toArray, List.getElem_cons_zero, List.getElem_cons_succ, List.setIfInBounds_toArray, List.set_cons_zero, List.set_cons_succ]
    refine wpAnyH_ready (rs := [21]) (by kernel_rfl) (by simp) ?_
    refine AllReadyH.cons rfl (fun K hK => ?_) AllReadyH.nil
    go_simp
    have hA8 := hAd.set (.slice va D.length vc)
    refine hK.out _ _ (⟨hA8.wt.cell 0 rfl, hA8.x.cell 1 rfl, hA8.x.cell 2 rfl⟩) (fun hHeld => ?_)
    clear hK K
    try simp only [Act.put, List.getElem_toArray, List.getElem_cons_zero, List.getElem_cons_succ, List.setIfInBounds_toArray, List.set_cons_zero, List.set_cons_succ]
    refine wpAnyH_take (i := 22) (v := ?_) rfl (by kernel_rfl) (by kernel_rfl) (by kernel_rfl) (fun _ _ _ h => h) (Or.inl ⟨by rfl, ?_⟩) (by assumption) ?_
    rotate_left
    · (intro Y hSw; (try dsimp only at hSw); obtain ⟨hS0, hS1, hS2⟩ := hSw; go_simp; try with_reducible rfl)
    try simp only [Act.put, List.getElem_toArray, List.getElem_cons_zero, List.getElem_cons_succ, List.setIfInBounds_toArray, List.set_cons_zero, List.set_cons_succ]
    refine wpAnyH_done (by kernel_rfl) ?_ _
    rw [onlyN_normal]
    have k8 : Below s w8 (w8.setCell ⟨s + 1 + 1, 0, none⟩ (.slice va D.length vc)) := (Below.refl s w8).setCell (p := ⟨s + 1 + 1, 0, none⟩) (by dsimp only; omega) _
    have hbs : b < s := by have := H.out.t.blk.lt; omega
    have hd8 := hPd.t.below k8 hbs hml
    have hR8 : RowAt (w8.setCell ⟨s + 1 + 1, 0, none⟩ (.slice va D.length vc)).heap.size (w8.setCell ⟨s + 1 + 1, 0, none⟩ (.slice va D.length vc)) (.slice va D.length vc) D.length (rowT D) := (hPd.r.setBox hAd.r (fun i h => by cases h) _).mono (by simp)
    go_wp2_with fail
    exact ret_pt rfl (s + 1 + 1) rfl hA8.r rfl rfl ⟨b, m, _, rfl, by rw [HE.out]; exact ⟨⟨hd8, hEg, hR8, hPd.k.setCell (p := ⟨s + 1 + 1, 0, none⟩) (by dsimp only; omega) _, hlo⟩, hA8.c, .inl ⟨rfl, rfl⟩⟩⟩
  by_cases h2 : f1 < 0
  · have he : freE f1 f2 = 4 := by unfold freE badP; rw [if_neg h1, if_pos (by simp [h2])]
    have hb : frB D f1 f2 = false := by unfold frB; rw [he]; rfl
    rw [he, hb]
    clear he hb
    go_wp2_with fail
    refine wp_onlyN ?_
    have hAd := hA7.step (Below.refl _ w7).drew
    have hPd := hP7.step (Below.refl _ w7).drew
    refine wp_region_held_drew (S := A4S s f1 f2 (.slice va D.length vc)) (by kernel_rfl) ⟨hAd.wt.cell 0 rfl, hAd.x.cell 1 rfl, hAd.x.cell 2 rfl⟩ (fun hHeld => ?_)
    clear hA7 hP7 ct x0 x1 x2 x3 x4 x5 ls0 ls1 ls2
    change wpAnyH _ _ _ _ _ _ _ _ w7.drew
    generalize w7.drew = w8 at hAd hPd hHeld ⊢
    have cr : w8.cell? ⟨s + 1 + 1, 0, none⟩ = some (.slice none 0 0) := hAd.r.cell 0 rfl
    have fr := hAd.r.frozen 0
    refine wpAnyH_take (i := 0) (v := ?_) rfl (by kernel_rfl) (by kernel_rfl) (by kernel_rfl) (fun _ _ _ h => h) (Or.inl ⟨by rfl, ?_⟩) (by assumption) ?_
    rotate_left
    · (intro Y hSw; (try dsimp only at hSw); obtain ⟨hS0, hS1, hS2⟩ := hSw; go_simp; try with_reducible rfl)
    try simp only [Act.put, List.getElem_toArray, List.getElem_cons_zero, List.getElem_cons_succ, List.setIfInBounds_toArray, List.set_cons_zero, List.set_cons_succ]
    refine wpAnyH_take (i := 1) (v := ?_) rfl (by kernel_rfl) (by kernel_rfl) (by kernel_rfl) (fun _ _ _ h => h) (Or.inl ⟨by rfl, ?_⟩) (by assumption) ?_
    rotate_left
    · (intro Y hSw; (try dsimp only at hSw); obtain ⟨hS0, hS1, hS2⟩ := hSw; go_simp; try with_reducible rfl)
    try simp only [Act.put, List.getElem_toArray, List.getElem_cons_zero, List.getElem_cons_succ, List.setIfInBounds_toArray, List.set_cons_zero, List.set_cons_succ]
    refine wpAnyH_take (i := 2) (v := ?_) rfl (by kernel_rfl) (by kernel_rfl) (by kernel_rfl) (fun _ _ _ h => h) (Or.inl ⟨by rfl, ?_⟩) (by assumption) ?_
    rotate_left
    · (intro Y hSw; (try dsimp only at hSw); obtain ⟨hS0, hS1, hS2⟩ := hSw; go_simp; try with_reducible rfl)
    try simp only [Act.put, List.getElem_toArray, List.getElem_cons_zero, List.getElem_cons_succ, List.setIfInBounds_toArray, List.set_cons_zero, List.set_cons_succ]
    refine wpAnyH_take (i := 4) (v := ?_) rfl (by kernel_rfl) (by kernel_rfl) (by kernel_rfl) (fun _ _ _ h => h) (Or.inl ⟨by rfl, ?_⟩) (by assumption) ?_
    rotate_left
    · (intro Y hSw; (try dsimp only at hSw); obtain ⟨hS0, hS1, hS2⟩ := hSw; go_simp; try with_reducible rfl)
    try simp only [Act.put, List.getElem_toArray, List.getElem_cons_zero, List.getElem_cons_succ, List.setIfInBounds_toArray, List.set_cons_zero, List.set_cons_succ]
    refine wpAnyH_ready (rs := [3]) (by kernel_rfl) (by simp) ?_
    refine AllReadyH.cons rfl (fun K hK => ?_) AllReadyH.nil
    go_simp
    refine (num_calls _ _).mono ?_; rintro e _ ⟨rfl, rfl⟩
    go_simp
    refine hK.out _ _ (hHeld) (fun hHeld => ?_)
    clear hK K
    try simp only [Act.put, List.getElem_toArray, List.getElem_cons_zero, List.getElem_cons_succ, List.setIfInBounds_toArray, List.set_cons_zero, List.set_cons_succ]
    refine wpAnyH_take (i := 5) (v := ?_) rfl (by kernel_rfl) (by kernel_rfl) (by kernel_rfl) (fun _ _ _ h => h) (Or.inl ⟨by rfl, ?_⟩) (by assumption) ?_
    rotate_left
    · (intro Y hSw; (try dsimp only at hSw); obtain ⟨hS0, hS1, hS2⟩ := hSw; go_simp; try with_reducible rfl)
    try simp only [Act.put, List.getElem_toArray, List.getElem_cons_zero, List.getElem_cons_succ, List.setIfInBounds_toArray, List.set_cons_zero, List.set_cons_succ]
    refine wpAnyH_take (i := 6) (v := ?_) rfl (by kernel_rfl) (by kernel_rfl) (by kernel_rfl) (fun _ _ _ h => h) (Or.inl ⟨by rfl, ?_⟩) (by assumption) ?_
    rotate_left
    · (intro Y hSw; (try dsimp only at hSw); obtain ⟨hS0, hS1, hS2⟩ := hSw; go_simp; try with_reducible rfl)
    try simp only [Act.put, List.getElem_toArray, List.getElem_cons_zero, List.getElem_cons_succ, List.setIfInBounds_toArray, List.set_cons_zero, List.set_cons_succ]
    refine wpAnyH_take (i := 7) (v := ?_) rfl (by kernel_rfl) (by kernel_rfl) (by kernel_rfl) (fun _ _ _ h => h) (Or.inl ⟨by rfl, ?_⟩) (by assumption) ?_
    rotate_left
    · (intro Y hSw; (try dsimp only at hSw); obtain ⟨hS0, hS1, hS2⟩ := hSw; go_simp; try with_reducible rfl)
    try simp only [Act.put, List.getElem_toArray, List.getElem_cons_zero, List.getElem_cons_succ, List.setIfInBounds_toArray, List.set_cons_zero, List.set_cons_succ]
    refine wpAnyH_take (i := 8) (v := ?_) rfl (by kernel_rfl) (by kernel_rfl) (by kernel_rfl) (fun _ _ _ h => h) (Or.inl ⟨by rfl, ?_⟩) (by assumption) ?_
    rotate_left
    · (intro Y hSw; (try dsimp only at hSw); obtain ⟨hS0, hS1, hS2⟩ := hSw; go_simp; try with_reducible rfl)
    try simp only [Act.put, List.getElem_toArray, List.getElem_cons_zero, List.getElem_cons_succ, List.setIfInBounds_toArray, List.set_cons_zero, List.set_cons_succ]
    refine wpAnyH_take (i := 9) (v := ?_) rfl (by kernel_rfl) (by kernel_rfl) (by kernel_rfl) (fun _ _ _ h => h) (Or.inl ⟨by rfl, ?_⟩) (by assumption) ?_
    rotate_left
    · (intro Y hSw; (try dsimp only at hSw); obtain ⟨hS0, hS1, hS2⟩ := hSw; go_simp; try with_reducible rfl)
    try simp only [Act.put, List.getElem_toArray, List.getElem_cons_zero, List.getElem_cons_succ, List.setIfInBounds_toArray, List.set_cons_zero, List.set_cons_succ]
    refine wpAnyH_take (i := 10) (v := ?_) rfl (by kernel_rfl) (by kernel_rfl) (by kernel_rfl) (fun _ _ _ h => h) (Or.inl ⟨by rfl, ?_⟩) (by assumption) ?_
    rotate_left
    · (intro Y hSw; (try dsimp only at hSw); obtain ⟨hS0, hS1, hS2⟩ := hSw; go_simp; try with_reducible rfl)
    try simp only [Act.put, List.getElem_toArray, List.getElem_cons_zero, List.getElem_cons_succ, List.setIfInBounds_toArray, List.set_cons_zero, List.set_cons_succ]
    refine wpAnyH_take (i := 11) (v := undef) rfl (by kernel_rfl) (by kernel_rfl) (by kernel_rfl) (fun _ _ _ h => h) (Or.inr ⟨by rfl, rfl⟩) (by assumption) ?_
    try simp only [Act.put, List.getElem_toArray, List.getElem_cons_zero, List.getElem_cons_succ, List.setIfInBounds_toArray, List.set_cons_zero, List.set_cons_succ]
    refine wpAnyH_take (i := 12) (v := undef) rfl (by kernel_rfl) (by kernel_rfl) (by kernel_rfl) (fun _ _ _ h => h) (Or.inr ⟨by rfl, rfl⟩) (by assumption) ?_
    try simp only [Act.put, List.getElem_toArray, List.getElem_cons_zero, List.getElem_cons_succ, List.setIfInBounds_toArray, List.set_cons_zero, List.set_cons_succ]
    refine wpAnyH_take (i := 13) (v := undef) rfl (by kernel_rfl) (by kernel_rfl) (by kernel_rfl) (fun _ _ _ h => h) (Or.inr ⟨by rfl, rfl⟩) (by assumption) ?_
    try simp only [Act.put, List.getElem_toArray, List.getElem_cons_zero, List.getElem_cons_succ, List.setIfInBounds_toArray, List.set_cons_zero, List.set_cons_succ]
    refine wpAnyH_take (i := 14) (v := undef) rfl (by kernel_rfl) (by kernel_rfl) (by kernel_rfl) (fun _ _ _ h => h) (Or.inr ⟨by rfl, rfl⟩) (by assumption) ?_
    try simp only [Act.put, List.getElem_toArray, List.getElem_cons_zero, List.getElem_cons_succ, List.setIfInBounds_toArray, List.set_cons_zero, List.set_cons_succ]
    refine wpAnyH_take (i := 15) (v := undef) rfl (by kernel_rfl) (by kernel_rfl) (by kernel_rfl) (fun _ _ _ h => h) (Or.inr ⟨by rfl, rfl⟩) (by assumption) ?_
    try simp only [Act.put, List.getElem_toArray, List.getElem_cons_zero, List.getElem_cons_succ, List.setIfInBounds_toArray, List.set_cons_zero, List.set_cons_succ]
    refine wpAnyH_take (i := 16) (v := undef) rfl (by kernel_rfl) (by kernel_rfl) (by kernel_rfl) (fun _ _ _ h => h) (Or.inr ⟨by rfl, rfl⟩) (by assumption) ?_
    try simp only [Act.put, List.getElem_toArray, List.getElem_cons_zero, List.getElem_cons_succ, List.setIfInBounds_toArray, List.set_cons_zero, List.set_cons_succ]
    refine wpAnyH_take (i := 17) (v := ?_) rfl (by kernel_rfl) (by kernel_rfl) (by kernel_rfl) (fun _ _ _ h => h) (Or.inl ⟨by rfl, ?_⟩) (by assumption) ?_
    rotate_left
    · (intro Y hSw; (try dsimp only at hSw); obtain ⟨hS0, hS1, hS2⟩ := hSw; go_simp; try with_reducible rfl)
    try simp only [Act.put, List.getElem_toArray, List.getElem_cons_zero, List.getElem_cons_succ, List.setIfInBounds_toArray, List.set_cons_zero, List.set_cons_succ]
    refine wpAnyH_take (i := 18) (v := ?_) rfl (by kernel_rfl) (by kernel_rfl) (by kernel_rfl) (fun _ _ _ h => h) (Or.inl ⟨by rfl, ?_⟩) (by assumption) ?_
    rotate_left
    · (intro Y hSw; (try dsimp only at hSw); obtain ⟨hS0, hS1, hS2⟩ := hSw; go_simp; try with_reducible rfl)
    try simp only [Act.put, List.getElem_toArray, List.getElem_cons_zero, List.getElem_cons_succ, List.setIfInBounds_toArray, List.set_cons_zero, List.set_cons_succ]
    refine wpAnyH_take (i := 19) (v := ?_) rfl (by kernel_rfl) (by kernel_rfl) (by kernel_rfl) (fun _ _ _ h => h) (Or.inl ⟨by rfl, ?_⟩) (by assumption) ?_
    rotate_left
    · (intro Y hSw; (try dsimp only at hSw); obtain ⟨hS0, hS1, hS2⟩ := hSw; go_simp; try with_reducible rfl)
    try simp only [Act.put, List.getElem_toArray, List.getElem_cons_zero, List.getElem_cons_succ, List.setIfInBounds_toArray, List.set_cons_zero, List.set_cons_succ]
    refine wpAnyH_take (i := 20) (v := ?_) rfl (by kernel_rfl) (by kernel_rfl) (by kernel_rfl) (fun _ _ _ h => h) (Or.inl ⟨by rfl, ?_⟩) (by assumption) ?_
    rotate_left
    · (intro Y hSw; (try dsimp only at hSw); obtain ⟨hS0, hS1, hS2⟩ := hSw; go_simp; try with_reducible rfl)
    try simp only [Act.put, List.getElem_toArray, List.getElem_cons_zero, List.getElem_cons_succ, List.setIfInBounds_toArray, List.set_cons_zero, List.set_cons_succ]
    refine wpAnyH_ready (rs := [21]) (by kernel_rfl) (by simp) ?_
    refine AllReadyH.cons rfl (fun K hK => ?_) AllReadyH.nil
    go_simp
    have hA8 := hAd.set (.slice va D.length vc)
    refine hK.out _ _ (⟨hA8.wt.cell 0 rfl, hA8.x.cell 1 rfl, hA8.x.cell 2 rfl⟩) (fun hHeld => ?_)
    clear hK K
    try simp only [Act.put, List.getElem_toArray, List.getElem_cons_zero, List.getElem_cons_succ, List.setIfInBounds_toArray, List.set_cons_zero, List.set_cons_succ]
    refine wpAnyH_take (i := 22) (v := ?_) rfl (by kernel_rfl) (by kernel_rfl) (by kernel_rfl) (fun _ _ _ h => h) (Or.inl ⟨by rfl, ?_⟩) (by assumption) ?_
    rotate_left
    · (intro Y hSw; (try dsimp only at hSw); obtain ⟨hS0, hS1, hS2⟩ := hSw; go_simp; try with_reducible rfl)
    try simp only [Act.put, List.getElem_toArray, List.getElem_cons_zero, List.getElem_cons_succ, List.setIfInBounds_toArray, List.set_cons_zero, List.set_cons_succ]
    refine wpAnyH_done (by kernel_rfl) ?_ _
    rw [onlyN_normal]
    have k8 : Below s w8 (w8.setCell ⟨s + 1 + 1, 0, none⟩ (.slice va D.length vc)) := (Below.refl s w8).setCell (p := ⟨s + 1 + 1, 0, none⟩) (by dsimp only; omega) _
    have hbs : b < s := by have := H.out.t.blk.lt; omega
    have hd8 := hPd.t.below k8 hbs hml
    have hR8 : RowAt (w8.setCell ⟨s + 1 + 1, 0, none⟩ (.slice va D.length vc)).heap.size (w8.setCell ⟨s + 1 + 1, 0, none⟩ (.slice va D.length vc)) (.slice va D.length vc) D.length (rowT D) := (hPd.r.setBox hAd.r (fun i h => by cases h) _).mono (by simp)
    go_wp2_with fail
    exact ret_pt rfl (s + 1 + 1) rfl hA8.r rfl rfl ⟨b, m, _, rfl, by rw [HE.out]; exact ⟨⟨hd8, hEg, hR8, hPd.k.setCell (p := ⟨s + 1 + 1, 0, none⟩) (by dsimp only; omega) _, hlo⟩, hA8.c, .inl ⟨rfl, rfl⟩⟩⟩
  by_cases h3 : 65536 ≤ f1
  · have he : freE f1 f2 = 4 := by unfold freE badP; rw [if_neg h1, if_pos (by simp [h3])]
    have hb : frB D f1 f2 = false := by unfold frB; rw [he]; rfl
    rw [he, hb]
    clear he hb
    go_wp2_with fail
    refine wp_onlyN ?_
    have hAd := hA7.step (Below.refl _ w7).drew
    have hPd := hP7.step (Below.refl _ w7).drew
    refine wp_region_held_drew (S := A4S s f1 f2 (.slice va D.length vc)) (by kernel_rfl) ⟨hAd.wt.cell 0 rfl, hAd.x.cell 1 rfl, hAd.x.cell 2 rfl⟩ (fun hHeld => ?_)
    clear hA7 hP7 ct x0 x1 x2 x3 x4 x5 ls0 ls1 ls2
    change wpAnyH _ _ _ _ _ _ _ _ w7.drew
    generalize w7.drew = w8 at hAd hPd hHeld ⊢
    have cr : w8.cell? ⟨s + 1 + 1, 0, none⟩ = some (.slice none 0 0) := hAd.r.cell 0 rfl
    have fr := hAd.r.frozen 0
    refine wpAnyH_take (i := 0) (v := ?_) rfl (by kernel_rfl) (by kernel_rfl) (by kernel_rfl) (fun _ _ _ h => h) (Or.inl ⟨by rfl, ?_⟩) (by assumption) ?_
    rotate_left
    · (intro Y hSw; (try dsimp only at hSw); obtain ⟨hS0, hS1, hS2⟩ := hSw; go_simp; try with_reducible rfl)
    try simp only [Act.put, List.getElem_toArray, List.getElem_cons_zero, List.getElem_cons_succ, List.setIfInBounds_toArray, List.set_cons_zero, List.set_cons_succ]
    refine wpAnyH_take (i := 1) (v := ?_) rfl (by kernel_rfl) (by kernel_rfl) (by kernel_rfl) (fun _ _ _ h => h) (Or.inl ⟨by rfl, ?_⟩) (by assumption) ?_
    rotate_left
    · (intro Y hSw; (try dsimp only at hSw); obtain ⟨hS0, hS1, hS2⟩ := hSw; go_simp; try with_reducible rfl)
    try simp only [Act.put, List.getElem_toArray, List.getElem_cons_zero, List.getElem_cons_succ, List.setIfInBounds_toArray, List.set_cons_zero, List.set_cons_succ]
    refine wpAnyH_take (i := 2) (v := ?_) rfl (by kernel_rfl) (by kernel_rfl) (by kernel_rfl) (fun _ _ _ h => h) (Or.inl ⟨by rfl, ?_⟩) (by assumption) ?_
    rotate_left
    · (intro Y hSw; (try dsimp only at hSw); obtain ⟨hS0, hS1, hS2⟩ := hSw; go_simp; try with_reducible rfl)
    try simp only [Act.put, List.getElem_toArray, List.getElem_cons_zero, List.getElem_cons_succ, List.setIfInBounds_toArray, List.set_cons_zero, List.set_cons_succ]
    refine wpAnyH_take (i := 4) (v := ?_) rfl (by kernel_rfl) (by kernel_rfl) (by kernel_rfl) (fun _ _ _ h => h) (Or.inl ⟨by rfl, ?_⟩) (by assumption) ?_
    rotate_left
    · (intro Y hSw; (try dsimp only at hSw); obtain ⟨hS0, hS1, hS2⟩ := hSw; go_simp; try with_reducible rfl)
    try simp only [Act.put, List.getElem_toArray, List.getElem_cons_zero, List.getElem_cons_succ, List.setIfInBounds_toArray, List.set_cons_zero, List.set_cons_succ]
    refine wpAnyH_ready (rs := [3]) (by kernel_rfl) (by simp) ?_
    refine AllReadyH.cons rfl (fun K hK => ?_) AllReadyH.nil
    go_simp
    refine (num_calls _ _).mono ?_; rintro e _ ⟨rfl, rfl⟩
    go_simp
    refine hK.out _ _ (hHeld) (fun hHeld => ?_)
    clear hK K
    try simp only [Act.put, List.getElem_toArray, List.getElem_cons_zero, List.getElem_cons_succ, List.setIfInBounds_toArray, List.set_cons_zero, List.set_cons_succ]
    refine wpAnyH_take (i := 5) (v := ?_) rfl (by kernel_rfl) (by kernel_rfl) (by kernel_rfl) (fun _ _ _ h => h) (Or.inl ⟨by rfl, ?_⟩) (by assumption) ?_
    rotate_left
    · (intro Y hSw; (try dsimp only at hSw); obtain ⟨hS0, hS1, hS2⟩ := hSw; go_simp; try with_reducible rfl)
    try simp only [Act.put, List.getElem_toArray, List.getElem_cons_zero, List.getElem_cons_succ, List.setIfInBounds_toArray, List.set_cons_zero, List.set_cons_succ]
    refine wpAnyH_take (i := 6) (v := ?_) rfl (by kernel_rfl) (by kernel_rfl) (by kernel_rfl) (fun _ _ _ h => h) (Or.inl ⟨by rfl, ?_⟩) (by assumption) ?_
    rotate_left
    · (intro Y hSw; (try dsimp only at hSw); obtain ⟨hS0, hS1, hS2⟩ := hSw; go_simp; try with_reducible rfl)
    try simp only [Act.put, List.getElem_toArray, List.getElem_cons_zero, List.getElem_cons_succ, List.setIfInBounds_toArray, List.set_cons_zero, List.set_cons_succ]
    refine wpAnyH_take (i := 7) (v := ?_) rfl (by kernel_rfl) (by kernel_rfl) (by kernel_rfl) (fun _ _ _ h => h) (Or.inl ⟨by rfl, ?_⟩) (by assumption) ?_
    rotate_left
    · (intro Y hSw; (try dsimp only at hSw); obtain ⟨hS0, hS1, hS2⟩ := hSw; go_simp; try with_reducible rfl)
    try simp only [Act.put, List.getElem_toArray, List.getElem_cons_zero, List.getElem_cons_succ, List.setIfInBounds_toArray, List.set_cons_zero, List.set_cons_succ]
    refine wpAnyH_take (i := 8) (v := ?_) rfl (by kernel_rfl) (by kernel_rfl) (by kernel_rfl) (fun _ _ _ h => h) (Or.inl ⟨by rfl, ?_⟩) (by assumption) ?_
    rotate_left
    · (intro Y hSw; (try dsimp only at hSw); obtain ⟨hS0, hS1, hS2⟩ := hSw; go_simp; try with_reducible rfl)
    try simp only [Act.put, List.getElem_toArray, List.getElem_cons_zero, List.getElem_cons_succ, List.setIfInBounds_toArray, List.set_cons_zero, List.set_cons_succ]
    refine wpAnyH_take (i := 9) (v := ?_) rfl (by kernel_rfl) (by kernel_rfl) (by kernel_rfl) (fun _ _ _ h => h) (Or.inl ⟨by rfl, ?_⟩) (by assumption) ?_
    rotate_left
    · (intro Y hSw; (try dsimp only at hSw); obtain ⟨hS0, hS1, hS2⟩ := hSw; go_simp; try with_reducible rfl)
    try simp only [Act.put, List.getElem_toArray, List.getElem_cons_zero, List.getElem_cons_succ, List.setIfInBounds_toArray, List.set_cons_zero, List.set_cons_succ]
    refine wpAnyH_take (i := 10) (v := ?_) rfl (by kernel_rfl) (by kernel_rfl) (by kernel_rfl) (fun _ _ _ h => h) (Or.inl ⟨by rfl, ?_⟩) (by assumption) ?_
    rotate_left
    · (intro Y hSw; (try dsimp only at hSw); obtain ⟨hS0, hS1, hS2⟩ := hSw; go_simp; try with_reducible rfl)
    try simp only [Act.put, List.getElem_toArray, List.getElem_cons_zero, List.getElem_cons_succ, List.setIfInBounds_toArray, List.set_cons_zero, List.set_cons_succ]
    refine wpAnyH_take (i := 11) (v := undef) rfl (by kernel_rfl) (by kernel_rfl) (by kernel_rfl) (fun _ _ _ h => h) (Or.inr ⟨by rfl, rfl⟩) (by assumption) ?_
    try simp only [Act.put, List.getElem_toArray, List.getElem_cons_zero, List.getElem_cons_succ, List.setIfInBounds_toArray, List.set_cons_zero, List.set_cons_succ]
    refine wpAnyH_take (i := 12) (v := undef) rfl (by kernel_rfl) (by kernel_rfl) (by kernel_rfl) (fun _ _ _ h => h) (Or.inr ⟨by rfl, rfl⟩) (by assumption) ?_
    try simp only [Act.put, List.getElem_toArray, List.getElem_cons_zero, List.getElem_cons_succ, List.setIfInBounds_toArray, List.set_cons_zero, List.set_cons_succ]
    refine wpAnyH_take (i := 13) (v := undef) rfl (by kernel_rfl) (by kernel_rfl) (by kernel_rfl) (fun _ _ _ h => h) (Or.inr ⟨by rfl, rfl⟩) (by assumption) ?_
    try simp only [Act.put, List.getElem_toArray, List.getElem_cons_zero, List.getElem_cons_succ, List.setIfInBounds_toArray, List.set_cons_zero, List.set_cons_succ]
    refine wpAnyH_take (i := 14) (v := undef) rfl (by kernel_rfl) (by kernel_rfl) (by kernel_rfl) (fun _ _ _ h => h) (Or.inr ⟨by rfl, rfl⟩) (by assumption) ?_
    try simp only [Act.put, List.getElem_toArray, List.getElem_cons_zero, List.getElem_cons_succ, List.setIfInBounds_toArray, List.set_cons_zero, List.set_cons_succ]
    refine wpAnyH_take (i := 15) (v := undef) rfl (by kernel_rfl) (by kernel_rfl) (by kernel_rfl) (fun _ _ _ h => h) (Or.inr ⟨by rfl, rfl⟩) (by assumption) ?_
    try simp only [Act.put, List.getElem_toArray, List.getElem_cons_zero, List.getElem_cons_succ, List.setIfInBounds_toArray, List.set_cons_zero, List.set_cons_succ]
    refine wpAnyH_take (i := 16) (v := undef) rfl (by kernel_rfl) (by kernel_rfl) (by kernel_rfl) (fun _ _ _ h => h) (Or.inr ⟨by rfl, rfl⟩) (by assumption) ?_
    try simp only [Act.put, List.getElem_toArray, List.getElem_cons_zero, List.getElem_cons_succ, List.setIfInBounds_toArray, List.set_cons_zero, List.set_cons_succ]
    refine wpAnyH_take (i := 17) (v := ?_) rfl (by kernel_rfl) (by kernel_rfl) (by kernel_rfl) (fun _ _ _ h => h) (Or.inl ⟨by rfl, ?_⟩) (by assumption) ?_
    rotate_left
    · (intro Y hSw; (try dsimp only at hSw); obtain ⟨hS0, hS1, hS2⟩ := hSw; go_simp; try with_reducible rfl)
    try simp only [Act.put, List.getElem_toArray, List.getElem_cons_zero, List.getElem_cons_succ, List.setIfInBounds_toArray, List.set_cons_zero, List.set_cons_succ]
    refine wpAnyH_take (i := 18) (v := ?_) rfl (by kernel_rfl) (by kernel_rfl) (by kernel_rfl) (fun _ _ _ h => h) (Or.inl ⟨by rfl, ?_⟩) (by assumption) ?_
    rotate_left
    · (intro Y hSw; (try dsimp only at hSw); obtain ⟨hS0, hS1, hS2⟩ := hSw; go_simp; try with_reducible rfl)
    try simp only [Act.put, List.getElem_toArray, List.getElem_cons_zero, List.getElem_cons_succ, List.setIfInBounds_toArray, List.set_cons_zero, List.set_cons_succ]
    refine wpAnyH_take (i := 19) (v := ?_) rfl (by kernel_rfl) (by kernel_rfl) (by kernel_rfl) (fun _ _ _ h => h) (Or.inl ⟨by rfl, ?_⟩) (by assumption) ?_
    rotate_left
    · (intro Y hSw; (try dsimp only at hSw); obtain ⟨hS0, hS1, hS2⟩ := hSw; go_simp; try with_reducible rfl)
    try simp only [Act.put, List.getElem_toArray, List.getElem_cons_zero, List.getElem_cons_succ, List.setIfInBounds_toArray, List.set_cons_zero, List.set_cons_succ]
    refine wpAnyH_take (i := 20) (v := ?_) rfl (by kernel_rfl) (by kernel_rfl) (by kernel_rfl) (fun _ _ _ h => h) (Or.inl ⟨by rfl, ?_⟩) (by assumption) ?_
    rotate_left
    · (intro Y hSw; (try dsimp only at hSw); obtain ⟨hS0, hS1, hS2⟩ := hSw; go_simp; try with_reducible rfl)
    try simp only [Act.put, List.getElem_toArray, List.getElem_cons_zero, List.getElem_cons_succ, List.setIfInBounds_toArray, List.set_cons_zero, List.set_cons_succ]
    refine wpAnyH_ready (rs := [21]) (by kernel_rfl) (by simp) ?_
    refine AllReadyH.cons rfl (fun K hK => ?_) AllReadyH.nil
    go_simp
    have hA8 := hAd.set (.slice va D.length vc)
    refine hK.out _ _ (⟨hA8.wt.cell 0 rfl, hA8.x.cell 1 rfl, hA8.x.cell 2 rfl⟩) (fun hHeld => ?_)
    clear hK K
    try simp only [Act.put, List.getElem_toArray, List.getElem_cons_zero, List.getElem_cons_succ, List.setIfInBounds_toArray, List.set_cons_zero, List.set_cons_succ]
    refine wpAnyH_take (i := 22) (v := ?_) rfl (by kernel_rfl) (by kernel_rfl) (by kernel_rfl) (fun _ _ _ h => h) (Or.inl ⟨by rfl, ?_⟩) (by assumption) ?_
    rotate_left
    · (intro Y hSw; (try dsimp only at hSw); obtain ⟨hS0, hS1, hS2⟩ := hSw; go_simp; try with_reducible rfl)
    try simp only [Act.put, List.getElem_toArray, List.getElem_cons_zero, List.getElem_cons_succ, List.setIfInBounds_toArray, List.set_cons_zero, List.set_cons_succ]
    refine wpAnyH_done (by kernel_rfl) ?_ _
    rw [onlyN_normal]
    have k8 : Below s w8 (w8.setCell ⟨s + 1 + 1, 0, none⟩ (.slice va D.length vc)) := (Below.refl s w8).setCell (p := ⟨s + 1 + 1, 0, none⟩) (by dsimp only; omega) _
    have hbs : b < s := by have := H.out.t.blk.lt; omega
    have hd8 := hPd.t.below k8 hbs hml
    have hR8 : RowAt (w8.setCell ⟨s + 1 + 1, 0, none⟩ (.slice va D.length vc)).heap.size (w8.setCell ⟨s + 1 + 1, 0, none⟩ (.slice va D.length vc)) (.slice va D.length vc) D.length (rowT D) := (hPd.r.setBox hAd.r (fun i h => by cases h) _).mono (by simp)
    go_wp2_with fail
    exact ret_pt rfl (s + 1 + 1) rfl hA8.r rfl rfl ⟨b, m, _, rfl, by rw [HE.out]; exact ⟨⟨hd8, hEg, hR8, hPd.k.setCell (p := ⟨s + 1 + 1, 0, none⟩) (by dsimp only; omega) _, hlo⟩, hA8.c, .inl ⟨rfl, rfl⟩⟩⟩
  have hsub : IntKind.i64.wrap (65536 - f1) = 65536 - f1 := IntWalk.i64_in _ (by omega)
  by_cases h4 : 65536 - f1 < f2
  · have he : freE f1 f2 = 4 := by unfold freE badP; rw [if_neg h1, if_neg (by simp; omega), if_pos h4]
    have hb : frB D f1 f2 = false := by unfold frB; rw [he]; rfl
    rw [he, hb]
    clear he hb
    go_wp2_with fail
    refine wp_onlyN ?_
    have hAd := hA7.step (Below.refl _ w7).drew
    have hPd := hP7.step (Below.refl _ w7).drew
    refine wp_region_held_drew (S := A4S s f1 f2 (.slice va D.length vc)) (by kernel_rfl) ⟨hAd.wt.cell 0 rfl, hAd.x.cell 1 rfl, hAd.x.cell 2 rfl⟩ (fun hHeld => ?_)
    clear hA7 hP7 ct x0 x1 x2 x3 x4 x5 ls0 ls1 ls2
    change wpAnyH _ _ _ _ _ _ _ _ w7.drew
    generalize w7.drew = w8 at hAd hPd hHeld ⊢
    have cr : w8.cell? ⟨s + 1 + 1, 0, none⟩ = some (.slice none 0 0) := hAd.r.cell 0 rfl
    have fr := hAd.r.frozen 0
    refine wpAnyH_take (i := 0) (v := ?_) rfl (by kernel_rfl) (by kernel_rfl) (by kernel_rfl) (fun _ _ _ h => h) (Or.inl ⟨by rfl, ?_⟩) (by assumption) ?_
    rotate_left
    · (intro Y hSw; (try dsimp only at hSw); obtain ⟨hS0, hS1, hS2⟩ := hSw; go_simp; try with_reducible rfl)
    try simp only [Act.put, List.getElem_toArray, List.getElem_cons_zero, List.getElem_cons_succ, List.setIfInBounds_toArray, List.set_cons_zero, List.set_cons_succ]
    refine wpAnyH_take (i := 1) (v := ?_) rfl (by kernel_rfl) (by kernel_rfl) (by kernel_rfl) (fun _ _ _ h => h) (Or.inl ⟨by rfl, ?_⟩) (by assumption) ?_
    rotate_left
    · (intro Y hSw; (try dsimp only at hSw); obtain ⟨hS0, hS1, hS2⟩ := hSw; go_simp; try with_reducible rfl)
    try simp only [Act.put, List.getElem_toArray, List.getElem_cons_zero, List.getElem_cons_succ, List.setIfInBounds_toArray, List.set_cons_zero, List.set_cons_succ]
    refine wpAnyH_take (i := 2) (v := ?_) rfl (by kernel_rfl) (by kernel_rfl) (by kernel_rfl) (fun _ _ _ h => h) (Or.inl ⟨by rfl, ?_⟩) (by assumption) ?_
    rotate_left
    · (intro Y hSw; (try dsimp only at hSw); obtain ⟨hS0, hS1, hS2⟩ := hSw; go_simp; try with_reducible rfl)
    try simp only [Act.put, List.getElem_toArray, List.getElem_cons_zero, List.getElem_cons_succ, List.setIfInBounds_toArray, List.set_cons_zero, List.set_cons_succ]
    refine wpAnyH_take (i := 4) (v := ?_) rfl (by kernel_rfl) (by kernel_rfl) (by kernel_rfl) (fun _ _ _ h => h) (Or.inl ⟨by rfl, ?_⟩) (by assumption) ?_
    rotate_left
    · (intro Y hSw; (try dsimp only at hSw); obtain ⟨hS0, hS1, hS2⟩ := hSw; go_simp; try with_reducible rfl)
    try simp only [Act.put, List.getElem_toArray, List.getElem_cons_zero, List.getElem_cons_succ, List.setIfInBounds_toArray, List.set_cons_zero, List.set_cons_succ]
    refine wpAnyH_ready (rs := [3]) (by kernel_rfl) (by simp) ?_
    refine AllReadyH.cons rfl (fun K hK => ?_) AllReadyH.nil
    go_simp
    refine (num_calls _ _).mono ?_; rintro e _ ⟨rfl, rfl⟩
    go_simp
    refine hK.out _ _ (hHeld) (fun hHeld => ?_)
    clear hK K
    try simp only [Act.put, List.getElem_toArray, List.getElem_cons_zero, List.getElem_cons_succ, List.setIfInBounds_toArray, List.set_cons_zero, List.set_cons_succ]
    refine wpAnyH_take (i := 5) (v := ?_) rfl (by kernel_rfl) (by kernel_rfl) (by kernel_rfl) (fun _ _ _ h => h) (Or.inl ⟨by rfl, ?_⟩) (by assumption) ?_
    rotate_left
    · (intro Y hSw; (try dsimp only at hSw); obtain ⟨hS0, hS1, hS2⟩ := hSw; go_simp; try with_reducible rfl)
    try simp only [Act.put, List.getElem_toArray, List.getElem_cons_zero, List.getElem_cons_succ, List.setIfInBounds_toArray, List.set_cons_zero, List.set_cons_succ]
    refine wpAnyH_take (i := 6) (v := ?_) rfl (by kernel_rfl) (by kernel_rfl) (by kernel_rfl) (fun _ _ _ h => h) (Or.inl ⟨by rfl, ?_⟩) (by assumption) ?_
    rotate_left
    · (intro Y hSw; (try dsimp only at hSw); obtain ⟨hS0, hS1, hS2⟩ := hSw; go_simp; try with_reducible rfl)
    try simp only [Act.put, List.getElem_toArray, List.getElem_cons_zero, List.getElem_cons_succ, List.setIfInBounds_toArray, List.set_cons_zero, List.set_cons_succ]
    refine wpAnyH_take (i := 7) (v := ?_) rfl (by kernel_rfl) (by kernel_rfl) (by kernel_rfl) (fun _ _ _ h => h) (Or.inl ⟨by rfl, ?_⟩) (by assumption) ?_
    rotate_left
    · (intro Y hSw; (try dsimp only at hSw); obtain ⟨hS0, hS1, hS2⟩ := hSw; go_simp; try with_reducible rfl)
    try simp only [Act.put, List.getElem_toArray, List.getElem_cons_zero, List.getElem_cons_succ, List.setIfInBounds_toArray, List.set_cons_zero, List.set_cons_succ]
    refine wpAnyH_take (i := 8) (v := ?_) rfl (by kernel_rfl) (by kernel_rfl) (by kernel_rfl) (fun _ _ _ h => h) (Or.inl ⟨by rfl, ?_⟩) (by assumption) ?_
    rotate_left
    · (intro Y hSw; (try dsimp only at hSw); obtain ⟨hS0, hS1, hS2⟩ := hSw; go_simp; try with_reducible rfl)
    try simp only [Act.put, List.getElem_toArray, List.getElem_cons_zero, List.getElem_cons_succ, List.setIfInBounds_toArray, List.set_cons_zero, List.set_cons_succ]
    refine wpAnyH_take (i := 9) (v := ?_) rfl (by kernel_rfl) (by kernel_rfl) (by kernel_rfl) (fun _ _ _ h => h) (Or.inl ⟨by rfl, ?_⟩) (by assumption) ?_
    rotate_left
    · (intro Y hSw; (try dsimp only at hSw); obtain ⟨hS0, hS1, hS2⟩ := hSw; go_simp; try with_reducible rfl)
    try simp only [Act.put, List.getElem_toArray, List.getElem_cons_zero, List.getElem_cons_succ, List.setIfInBounds_toArray, List.set_cons_zero, List.set_cons_succ]
    refine wpAnyH_take (i := 10) (v := ?_) rfl (by kernel_rfl) (by kernel_rfl) (by kernel_rfl) (fun _ _ _ h => h) (Or.inl ⟨by rfl, ?_⟩) (by assumption) ?_
    rotate_left
    · (intro Y hSw; (try dsimp only at hSw); obtain ⟨hS0, hS1, hS2⟩ := hSw; go_simp; try with_reducible rfl)
    try simp only [Act.put, List.getElem_toArray, List.getElem_cons_zero, List.getElem_cons_succ, List.setIfInBounds_toArray, List.set_cons_zero, List.set_cons_succ]
    refine wpAnyH_take (i := 11) (v := undef) rfl (by kernel_rfl) (by kernel_rfl) (by kernel_rfl) (fun _ _ _ h => h) (Or.inr ⟨by rfl, rfl⟩) (by assumption) ?_
    try simp only [Act.put, List.getElem_toArray, List.getElem_cons_zero, List.getElem_cons_succ, List.setIfInBounds_toArray, List.set_cons_zero, List.set_cons_succ]
    refine wpAnyH_take (i := 12) (v := undef) rfl (by kernel_rfl) (by kernel_rfl) (by kernel_rfl) (fun _ _ _ h => h) (Or.inr ⟨by rfl, rfl⟩) (by assumption) ?_
    try simp only [Act.put, List.getElem_toArray, List.getElem_cons_zero, List.getElem_cons_succ, List.setIfInBounds_toArray, List.set_cons_zero, List.set_cons_succ]
    refine wpAnyH_take (i := 13) (v := undef) rfl (by kernel_rfl) (by kernel_rfl) (by kernel_rfl) (fun _ _ _ h => h) (Or.inr ⟨by rfl, rfl⟩) (by assumption) ?_
    try simp only [Act.put, List.getElem_toArray, List.getElem_cons_zero, List.getElem_cons_succ, List.setIfInBounds_toArray, List.set_cons_zero, List.set_cons_succ]
    refine wpAnyH_take (i := 14) (v := undef) rfl (by kernel_rfl) (by kernel_rfl) (by kernel_rfl) (fun _ _ _ h => h) (Or.inr ⟨by rfl, rfl⟩) (by assumption) ?_
    try simp only [Act.put, List.getElem_toArray, List.getElem_cons_zero, List.getElem_cons_succ, List.setIfInBounds_toArray, List.set_cons_zero, List.set_cons_succ]
    refine wpAnyH_take (i := 15) (v := undef) rfl (by kernel_rfl) (by kernel_rfl) (by kernel_rfl) (fun _ _ _ h => h) (Or.inr ⟨by rfl, rfl⟩) (by assumption) ?_
    try simp only [Act.put, List.getElem_toArray, List.getElem_cons_zero, List.getElem_cons_succ, List.setIfInBounds_toArray, List.set_cons_zero, List.set_cons_succ]
    refine wpAnyH_take (i := 16) (v := undef) rfl (by kernel_rfl) (by kernel_rfl) (by kernel_rfl) (fun _ _ _ h => h) (Or.inr ⟨by rfl, rfl⟩) (by assumption) ?_
    try simp only [Act.put, List.getElem_toArray, List.getElem_cons_zero, List.getElem_cons_succ, List.setIfInBounds_toArray, List.set_cons_zero, List.set_cons_succ]
    refine wpAnyH_take (i := 17) (v := ?_) rfl (by kernel_rfl) (by kernel_rfl) (by kernel_rfl) (fun _ _ _ h => h) (Or.inl ⟨by rfl, ?_⟩) (by assumption) ?_
    rotate_left
    · (intro Y hSw; (try dsimp only at hSw); obtain ⟨hS0, hS1, hS2⟩ := hSw; go_simp; try with_reducible rfl)
    try simp only [Act.put, List.getElem_toArray, List.getElem_cons_zero, List.getElem_cons_succ, List.setIfInBounds_toArray, List.set_cons_zero, List.set_cons_succ]
    refine wpAnyH_take (i := 18) (v := ?_) rfl (by kernel_rfl) (by kernel_rfl) (by kernel_rfl) (fun _ _ _ h => h) (Or.inl ⟨by rfl, ?_⟩) (by assumption) ?_
    rotate_left
    · (intro Y hSw; (try dsimp only at hSw); obtain ⟨hS0, hS1, hS2⟩ := hSw; go_simp; try with_reducible rfl)
    try simp only [Act.put, List.getElem_toArray, List.getElem_cons_zero, List.getElem_cons_succ, List.setIfInBounds_toArray, List.set_cons_zero, List.set_cons_succ]
    refine wpAnyH_take (i := 19) (v := ?_) rfl (by kernel_rfl) (by kernel_rfl) (by kernel_rfl) (fun _ _ _ h => h) (Or.inl ⟨by rfl, ?_⟩) (by assumption) ?_
    rotate_left
    · (intro Y hSw; (try dsimp only at hSw); obtain ⟨hS0, hS1, hS2⟩ := hSw; go_simp; try with_reducible rfl)
    try simp only [Act.put, List.getElem_toArray, List.getElem_cons_zero, List.getElem_cons_succ, List.setIfInBounds_toArray, List.set_cons_zero, List.set_cons_succ]
    refine wpAnyH_take (i := 20) (v := ?_) rfl (by kernel_rfl) (by kernel_rfl) (by kernel_rfl) (fun _ _ _ h => h) (Or.inl ⟨by rfl, ?_⟩) (by assumption) ?_
    rotate_left
    · (intro Y hSw; (try dsimp only at hSw); obtain ⟨hS0, hS1, hS2⟩ := hSw; go_simp; try with_reducible rfl)
    try simp only [Act.put, List.getElem_toArray, List.getElem_cons_zero, List.getElem_cons_succ, List.setIfInBounds_toArray, List.set_cons_zero, List.set_cons_succ]
    refine wpAnyH_ready (rs := [21]) (by kernel_rfl) (by simp) ?_
    refine AllReadyH.cons rfl (fun K hK => ?_) AllReadyH.nil
    go_simp
    have hA8 := hAd.set (.slice va D.length vc)
    refine hK.out _ _ (⟨hA8.wt.cell 0 rfl, hA8.x.cell 1 rfl, hA8.x.cell 2 rfl⟩) (fun hHeld => ?_)
    clear hK K
    try simp only [Act.put, List.getElem_toArray, List.getElem_cons_zero, List.getElem_cons_succ, List.setIfInBounds_toArray, List.set_cons_zero, List.set_cons_succ]
    refine wpAnyH_take (i := 22) (v := ?_) rfl (by kernel_rfl) (by kernel_rfl) (by kernel_rfl) (fun _ _ _ h => h) (Or.inl ⟨by rfl, ?_⟩) (by assumption) ?_
    rotate_left
    · (intro Y hSw; (try dsimp only at hSw); obtain ⟨hS0, hS1, hS2⟩ := hSw; go_simp; try with_reducible rfl)
    try simp only [Act.put, List.getElem_toArray, List.getElem_cons_zero, List.getElem_cons_succ, List.setIfInBounds_toArray, List.set_cons_zero, List.set_cons_succ]
    refine wpAnyH_done (by kernel_rfl) ?_ _
    rw [onlyN_normal]
    have k8 : Below s w8 (w8.setCell ⟨s + 1 + 1, 0, none⟩ (.slice va D.length vc)) := (Below.refl s w8).setCell (p := ⟨s + 1 + 1, 0, none⟩) (by dsimp only; omega) _
    have hbs : b < s := by have := H.out.t.blk.lt; omega
    have hd8 := hPd.t.below k8 hbs hml
    have hR8 : RowAt (w8.setCell ⟨s + 1 + 1, 0, none⟩ (.slice va D.length vc)).heap.size (w8.setCell ⟨s + 1 + 1, 0, none⟩ (.slice va D.length vc)) (.slice va D.length vc) D.length (rowT D) := (hPd.r.setBox hAd.r (fun i h => by cases h) _).mono (by simp)
    go_wp2_with fail
    exact ret_pt rfl (s + 1 + 1) rfl hA8.r rfl rfl ⟨b, m, _, rfl, by rw [HE.out]; exact ⟨⟨hd8, hEg, hR8, hPd.k.setCell (p := ⟨s + 1 + 1, 0, none⟩) (by dsimp only; omega) _, hlo⟩, hA8.c, .inl ⟨rfl, rfl⟩⟩⟩
  · have he : freE f1 f2 = 0 := by unfold freE badP; rw [if_neg h1, if_neg (by simp; omega), if_neg h4]
    have hb : frB D f1 f2 = freeB D f1 f2 := by unfold frB; rw [if_pos he]
    rw [he, hb]
    clear he hb
    go_wp2_with fail
    refine wp_onlyN ?_
    have hAd := hA7.step (Below.refl _ w7).drew
    have hPd := hP7.step (Below.refl _ w7).drew
    refine wp_region_held_drew (S := A4S s f1 f2 (.slice va D.length vc)) (by kernel_rfl) ⟨hAd.wt.cell 0 rfl, hAd.x.cell 1 rfl, hAd.x.cell 2 rfl⟩ (fun hHeld => ?_)
    clear hA7 hP7 ct x0 x1 x2 x3 x4 x5 ls0 ls1 ls2
    change wpAnyH _ _ _ _ _ _ _ _ w7.drew
    generalize w7.drew = w8 at hAd hPd hHeld ⊢
    have cr : w8.cell? ⟨s + 1 + 1, 0, none⟩ = some (.slice none 0 0) := hAd.r.cell 0 rfl
    have fr := hAd.r.frozen 0
    refine wpAnyH_take (i := 0) (v := ?_) rfl (by kernel_rfl) (by kernel_rfl) (by kernel_rfl) (fun _ _ _ h => h) (Or.inl ⟨by rfl, ?_⟩) (by assumption) ?_
    rotate_left
    · (intro Y hSw; (try dsimp only at hSw); obtain ⟨hS0, hS1, hS2⟩ := hSw; go_simp; try with_reducible rfl)
    try simp only [Act.put, List.getElem_toArray, List.getElem_cons_zero, List.getElem_cons_succ, List.setIfInBounds_toArray, List.set_cons_zero, List.set_cons_succ]
    refine wpAnyH_take (i := 1) (v := ?_) rfl (by kernel_rfl) (by kernel_rfl) (by kernel_rfl) (fun _ _ _ h => h) (Or.inl ⟨by rfl, ?_⟩) (by assumption) ?_
    rotate_left
    · (intro Y hSw; (try dsimp only at hSw); obtain ⟨hS0, hS1, hS2⟩ := hSw; go_simp; try with_reducible rfl)
    try simp only [Act.put, List.getElem_toArray, List.getElem_cons_zero, List.getElem_cons_succ, List.setIfInBounds_toArray, List.set_cons_zero, List.set_cons_succ]
    refine wpAnyH_take (i := 2) (v := ?_) rfl (by kernel_rfl) (by kernel_rfl) (by kernel_rfl) (fun _ _ _ h => h) (Or.inl ⟨by rfl, ?_⟩) (by assumption) ?_
    rotate_left
    · (intro Y hSw; (try dsimp only at hSw); obtain ⟨hS0, hS1, hS2⟩ := hSw; go_simp; try with_reducible rfl)
    try simp only [Act.put, List.getElem_toArray, List.getElem_cons_zero, List.getElem_cons_succ, List.setIfInBounds_toArray, List.set_cons_zero, List.set_cons_succ]
    refine wpAnyH_take (i := 4) (v := ?_) rfl (by kernel_rfl) (by kernel_rfl) (by kernel_rfl) (fun _ _ _ h => h) (Or.inl ⟨by rfl, ?_⟩) (by assumption) ?_
    rotate_left
    · (intro Y hSw; (try dsimp only at hSw); obtain ⟨hS0, hS1, hS2⟩ := hSw; go_simp; try with_reducible rfl)
    try simp only [Act.put, List.getElem_toArray, List.getElem_cons_zero, List.getElem_cons_succ, List.setIfInBounds_toArray, List.set_cons_zero, List.set_cons_succ]
    refine wpAnyH_ready (rs := [3]) (by kernel_rfl) (by simp) ?_
    refine AllReadyH.cons rfl (fun K hK => ?_) AllReadyH.nil
    go_simp
    refine (num_calls _ _).mono ?_; rintro e _ ⟨rfl, rfl⟩
    go_simp
    refine hK.out _ _ (hHeld) (fun hHeld => ?_)
    clear hK K
    try simp only [Act.put, List.getElem_toArray, List.getElem_cons_zero, List.getElem_cons_succ, List.setIfInBounds_toArray, List.set_cons_zero, List.set_cons_succ]
    refine wpAnyH_take (i := 5) (v := ?_) rfl (by kernel_rfl) (by kernel_rfl) (by kernel_rfl) (fun _ _ _ h => h) (Or.inl ⟨by rfl, ?_⟩) (by assumption) ?_
    rotate_left
    · (intro Y hSw; (try dsimp only at hSw); obtain ⟨hS0, hS1, hS2⟩ := hSw; go_simp; try with_reducible rfl)
    try simp only [Act.put, List.getElem_toArray, List.getElem_cons_zero, List.getElem_cons_succ, List.setIfInBounds_toArray, List.set_cons_zero, List.set_cons_succ]
    refine wpAnyH_take (i := 6) (v := ?_) rfl (by kernel_rfl) (by kernel_rfl) (by kernel_rfl) (fun _ _ _ h => h) (Or.inl ⟨by rfl, ?_⟩) (by assumption) ?_
    rotate_left
    · (intro Y hSw; (try dsimp only at hSw); obtain ⟨hS0, hS1, hS2⟩ := hSw; go_simp; try with_reducible rfl)
    try simp only [Act.put, List.getElem_toArray, List.getElem_cons_zero, List.getElem_cons_succ, List.setIfInBounds_toArray, List.set_cons_zero, List.set_cons_succ]
    refine wpAnyH_take (i := 7) (v := ?_) rfl (by kernel_rfl) (by kernel_rfl) (by kernel_rfl) (fun _ _ _ h => h) (Or.inl ⟨by rfl, ?_⟩) (by assumption) ?_
    rotate_left
    · (intro Y hSw; (try dsimp only at hSw); obtain ⟨hS0, hS1, hS2⟩ := hSw; go_simp; try with_reducible rfl)
    try simp only [Act.put, List.getElem_toArray, List.getElem_cons_zero, List.getElem_cons_succ, List.setIfInBounds_toArray, List.set_cons_zero, List.set_cons_succ]
    refine wpAnyH_take (i := 8) (v := ?_) rfl (by kernel_rfl) (by kernel_rfl) (by kernel_rfl) (fun _ _ _ h => h) (Or.inl ⟨by rfl, ?_⟩) (by assumption) ?_
    rotate_left
    · (intro Y hSw; (try dsimp only at hSw); obtain ⟨hS0, hS1, hS2⟩ := hSw; go_simp; try with_reducible rfl)
    try simp only [Act.put, List.getElem_toArray, List.getElem_cons_zero, List.getElem_cons_succ, List.setIfInBounds_toArray, List.set_cons_zero, List.set_cons_succ]
    refine wpAnyH_take (i := 9) (v := ?_) rfl (by kernel_rfl) (by kernel_rfl) (by kernel_rfl) (fun _ _ _ h => h) (Or.inl ⟨by rfl, ?_⟩) (by assumption) ?_
    rotate_left
    · (intro Y hSw; (try dsimp only at hSw); obtain ⟨hS0, hS1, hS2⟩ := hSw; go_simp; try with_reducible rfl)
    try simp only [Act.put, List.getElem_toArray, List.getElem_cons_zero, List.getElem_cons_succ, List.setIfInBounds_toArray, List.set_cons_zero, List.set_cons_succ]
    refine wpAnyH_take (i := 10) (v := ?_) rfl (by kernel_rfl) (by kernel_rfl) (by kernel_rfl) (fun _ _ _ h => h) (Or.inl ⟨by rfl, ?_⟩) (by assumption) ?_
    rotate_left
    · (intro Y hSw; (try dsimp only at hSw); obtain ⟨hS0, hS1, hS2⟩ := hSw; go_simp; try with_reducible rfl)
    try simp only [Act.put, List.getElem_toArray, List.getElem_cons_zero, List.getElem_cons_succ, List.setIfInBounds_toArray, List.set_cons_zero, List.set_cons_succ]
    refine wpAnyH_take (i := 11) (v := ?_) rfl (by kernel_rfl) (by kernel_rfl) (by kernel_rfl) (fun _ _ _ h => h) (Or.inl ⟨by rfl, ?_⟩) (by assumption) ?_
    rotate_left
    · (intro Y hSw; (try dsimp only at hSw); obtain ⟨hS0, hS1, hS2⟩ := hSw; go_simp; try with_reducible rfl)
    try simp only [Act.put, List.getElem_toArray, List.getElem_cons_zero, List.getElem_cons_succ, List.setIfInBounds_toArray, List.set_cons_zero, List.set_cons_succ]
    refine wpAnyH_take (i := 12) (v := ?_) rfl (by kernel_rfl) (by kernel_rfl) (by kernel_rfl) (fun _ _ _ h => h) (Or.inl ⟨by rfl, ?_⟩) (by assumption) ?_
    rotate_left
    · (intro Y hSw; (try dsimp only at hSw); obtain ⟨hS0, hS1, hS2⟩ := hSw; go_simp; try with_reducible rfl)
    try simp only [Act.put, List.getElem_toArray, List.getElem_cons_zero, List.getElem_cons_succ, List.setIfInBounds_toArray, List.set_cons_zero, List.set_cons_succ]
    refine wpAnyH_take (i := 13) (v := ?_) rfl (by kernel_rfl) (by kernel_rfl) (by kernel_rfl) (fun _ _ _ h => h) (Or.inl ⟨by rfl, ?_⟩) (by assumption) ?_
    rotate_left
    · (intro Y hSw; (try dsimp only at hSw); obtain ⟨hS0, hS1, hS2⟩ := hSw; go_simp; try with_reducible rfl)
    try simp only [Act.put, List.getElem_toArray, List.getElem_cons_zero, List.getElem_cons_succ, List.setIfInBounds_toArray, List.set_cons_zero, List.set_cons_succ]
    refine wpAnyH_take (i := 14) (v := ?_) rfl (by kernel_rfl) (by kernel_rfl) (by kernel_rfl) (fun _ _ _ h => h) (Or.inl ⟨by rfl, ?_⟩) (by assumption) ?_
    rotate_left
    · (intro Y hSw; (try dsimp only at hSw); obtain ⟨hS0, hS1, hS2⟩ := hSw; go_simp; try with_reducible rfl)
    try simp only [Act.put, List.getElem_toArray, List.getElem_cons_zero, List.getElem_cons_succ, List.setIfInBounds_toArray, List.set_cons_zero, List.set_cons_succ]
    refine wpAnyH_take (i := 15) (v := ?_) rfl (by kernel_rfl) (by kernel_rfl) (by kernel_rfl) (fun _ _ _ h => h) (Or.inl ⟨by rfl, ?_⟩) (by assumption) ?_
    rotate_left
    · (intro Y hSw; (try dsimp only at hSw); obtain ⟨hS0, hS1, hS2⟩ := hSw; go_simp; try with_reducible rfl)
    try simp only [Act.put, List.getElem_toArray, List.getElem_cons_zero, List.getElem_cons_succ, List.setIfInBounds_toArray, List.set_cons_zero, List.set_cons_succ]
    refine wpAnyH_ready (rs := [16]) (by kernel_rfl) (by simp) ?_
    refine AllReadyH.cons rfl (fun K hK => ?_) AllReadyH.nil
    go_simp
    refine (rFree_ok _ D w8.heap.size f1 f2 w8 (Nat.le_refl _) (by omega) hPd.g (by omega) hPd.r).mono ?_; rintro e w9 ⟨rfl, k9⟩
    replace hPd := hPd.step k9
    replace hAd := hAd.step k9
    clear cr fr
    go_simp
    refine hK.out _ _ (⟨hAd.wt.cell 0 rfl, hAd.x.cell 1 rfl, hAd.x.cell 2 rfl⟩) (fun hHeld => ?_)
    clear hK K
    try simp only [Act.put, List.getElem_toArray, List.getElem_cons_zero, List.getElem_cons_succ, List.setIfInBounds_toArray, List.set_cons_zero, List.set_cons_succ]
    obtain ⟨w8, rfl⟩ : ∃ w8 : World, w8 = w9 := ⟨_, rfl⟩
    have cr : w8.cell? ⟨s + 1 + 1, 0, none⟩ = some (.slice none 0 0) := hAd.r.cell 0 rfl
    have fr := hAd.r.frozen 0
    refine wpAnyH_take (i := 17) (v := ?_) rfl (by kernel_rfl) (by kernel_rfl) (by kernel_rfl) (fun _ _ _ h => h) (Or.inl ⟨by rfl, ?_⟩) (by assumption) ?_
    rotate_left
    · (intro Y hSw; (try dsimp only at hSw); obtain ⟨hS0, hS1, hS2⟩ := hSw; go_simp; try with_reducible rfl)
    try simp only [Act.put, List.getElem_toArray, List.getElem_cons_zero, List.getElem_cons_succ, List.setIfInBounds_toArray, List.set_cons_zero, List.set_cons_succ]
    refine wpAnyH_take (i := 18) (v := ?_) rfl (by kernel_rfl) (by kernel_rfl) (by kernel_rfl) (fun _ _ _ h => h) (Or.inl ⟨by rfl, ?_⟩) (by assumption) ?_
    rotate_left
    · (intro Y hSw; (try dsimp only at hSw); obtain ⟨hS0, hS1, hS2⟩ := hSw; go_simp; try with_reducible rfl)
    try simp only [Act.put, List.getElem_toArray, List.getElem_cons_zero, List.getElem_cons_succ, List.setIfInBounds_toArray, List.set_cons_zero, List.set_cons_succ]
    refine wpAnyH_take (i := 19) (v := ?_) rfl (by kernel_rfl) (by kernel_rfl) (by kernel_rfl) (fun _ _ _ h => h) (Or.inl ⟨by rfl, ?_⟩) (by assumption) ?_
    rotate_left
    · (intro Y hSw; (try dsimp only at hSw); obtain ⟨hS0, hS1, hS2⟩ := hSw; go_simp; try with_reducible rfl)
    try simp only [Act.put, List.getElem_toArray, List.getElem_cons_zero, List.getElem_cons_succ, List.setIfInBounds_toArray, List.set_cons_zero, List.set_cons_succ]
    refine wpAnyH_take (i := 20) (v := ?_) rfl (by kernel_rfl) (by kernel_rfl) (by kernel_rfl) (fun _ _ _ h => h) (Or.inl ⟨by rfl, ?_⟩) (by assumption) ?_
    rotate_left
    · (intro Y hSw; (try dsimp only at hSw); obtain ⟨hS0, hS1, hS2⟩ := hSw; go_simp; try with_reducible rfl)
    try simp only [Act.put, List.getElem_toArray, List.getElem_cons_zero, List.getElem_cons_succ, List.setIfInBounds_toArray, List.set_cons_zero, List.set_cons_succ]
    refine wpAnyH_ready (rs := [21]) (by kernel_rfl) (by simp) ?_
    refine AllReadyH.cons rfl (fun K hK => ?_) AllReadyH.nil
    go_simp
    have hA8 := hAd.set (.slice va D.length vc)
    refine hK.out _ _ (⟨hA8.wt.cell 0 rfl, hA8.x.cell 1 rfl, hA8.x.cell 2 rfl⟩) (fun hHeld => ?_)
    clear hK K
    try simp only [Act.put, List.getElem_toArray, List.getElem_cons_zero, List.getElem_cons_succ, List.setIfInBounds_toArray, List.set_cons_zero, List.set_cons_succ]
    refine wpAnyH_take (i := 22) (v := ?_) rfl (by kernel_rfl) (by kernel_rfl) (by kernel_rfl) (fun _ _ _ h => h) (Or.inl ⟨by rfl, ?_⟩) (by assumption) ?_
    rotate_left
    · (intro Y hSw; (try dsimp only at hSw); obtain ⟨hS0, hS1, hS2⟩ := hSw; go_simp; try with_reducible rfl)
    try simp only [Act.put, List.getElem_toArray, List.getElem_cons_zero, List.getElem_cons_succ, List.setIfInBounds_toArray, List.set_cons_zero, List.set_cons_succ]
    refine wpAnyH_done (by kernel_rfl) ?_ _
    rw [onlyN_normal]
    have k8 : Below s w8 (w8.setCell ⟨s + 1 + 1, 0, none⟩ (.slice va D.length vc)) := (Below.refl s w8).setCell (p := ⟨s + 1 + 1, 0, none⟩) (by dsimp only; omega) _
    have hbs : b < s := by have := H.out.t.blk.lt; omega
    have hd8 := hPd.t.below k8 hbs hml
    have hR8 : RowAt (w8.setCell ⟨s + 1 + 1, 0, none⟩ (.slice va D.length vc)).heap.size (w8.setCell ⟨s + 1 + 1, 0, none⟩ (.slice va D.length vc)) (.slice va D.length vc) D.length (rowT D) := (hPd.r.setBox hAd.r (fun i h => by cases h) _).mono (by simp)
    go_wp2_with fail
    exact ret_pt rfl (s + 1 + 1) rfl hA8.r rfl rfl ⟨b, m, _, rfl, by rw [HE.out]; exact ⟨⟨hd8, hEg, hR8, hPd.k.setCell (p := ⟨s + 1 + 1, 0, none⟩) (by dsimp only; omega) _, hlo⟩, hA8.c, .inl ⟨rfl, rfl⟩⟩⟩
end Go.Proofs.Ytchepkihlnpfeaa
