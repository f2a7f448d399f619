/-
  Package pinfoldlaw08: act. Conditions: a table, the document's rows beside it.
-/
import Derived.Test.YtchepkihlnpfeaaPgV
namespace Go.Proofs.Ytchepkihlnpfeaa
open Go.RowKit
attribute [local go_sem] Oper.semAt_some
set_option maxHeartbeats 4000000
set_option maxRecDepth 8000

theorem act5_ok {w0 W : World} {b m : Nat} {v : Value} {D : Tb} (h : Pl w0 W b m v D) (hl : D.length ≤ 1000) (x : ActV) (hx : x.f0 ≠ 0 ∧ x.f0 ≠ 1 ∧ x.f0 ≠ 2 ∧ x.f0 ≠ 3 ∧ x.f0 ≠ 4) :
    Calls Try.prog 14 #[.pointer (some ⟨b, 0, none⟩), .agg #[v], .agg #[.int .i64 x.f0, .int .i64 x.f1, .int .i64 x.f2, .int .i64 x.f3, .int .i64 x.f4, .int .i64 x.f5]] W fun e w' =>
      ∃ b' m' v', e = .returned (.tuple #[.pointer (some ⟨b', 0, none⟩), .agg #[v'], .bool true]) ∧ ActE w0 W w' b m b' m' v' (actD D x) := by
  obtain ⟨f0, f1, f2, f3, f4, f5⟩ := x
  dsimp only at hx ⊢
  obtain ⟨va, vc, rfl, _⟩ := h.r.len
  have hml := h.t.mp.lt
  obtain ⟨w1, hw1⟩ : ∃ w1, ((W.alloc (.cells #[.slice va D.length vc] 28)).alloc (.cells #[.int .i64 f0, .int .i64 f1, .int .i64 f2, .int .i64 f3, .int .i64 f4, .int .i64 f5] 45)).alloc (.cells #[.slice none 0 0] 28) = w1 := ⟨_, rfl⟩
  have k1 : Below W.heap.size W w1 := by rw [← hw1]; exact (((Below.refl _ W).alloc (Nat.le_refl _) _).alloc (by simp) _).alloc (by simp; omega) _
  have hA : AcI W w1 W.heap.size m (.slice va D.length vc) (.slice none 0 0) ⟨f0, f1, f2, f3, f4, f5⟩ := by
    refine ⟨?_, ?_, ?_, .of_below k1, hml, rfl, ?_⟩
    · rw [← hw1]; exact ((Blk.new W _ _).alloc _).alloc _
    · rw [← hw1]; exact (Blk.newAt _ _ _ (by simp)).alloc _
    · rw [← hw1]; exact Blk.newAt _ _ _ (by simp)
    · rw [← hw1]; simp
  have hP := h.step k1
  obtain ⟨s, hs⟩ : ∃ s, W.heap.size = s := ⟨_, rfl⟩
  have H := Lib.hid h
  rw [hs] at hA hml
  clear h k1
  obtain ⟨n0, n1, n2, n3, n4⟩ := hx
  have hD : actD D ⟨f0, f1, f2, f3, f4, f5⟩ = D := by unfold actD; dsimp only; rw [if_neg (by omega), if_neg (by omega), if_neg (by omega)]
  have HE := Lib.hid hD
  have hEg := H.out.g
  have hlo := hP.lo
  clear hD
  have ls0 : s < w1.heap.size := hA.wt.lt
  have ls1 : s + 1 < w1.heap.size := hA.x.lt
  have ls2 : s + 1 + 1 < w1.heap.size := hA.r.lt
  have ct : w1.cell? ⟨s, 0, none⟩ = some (.slice va D.length vc) := hA.wt.cell 0 rfl
  have x0 : w1.cell? ⟨s + 1, 0, none⟩ = some (.int .i64 f0) := hA.x.cell 0 rfl
  have x1 : w1.cell? ⟨s + 1, 1, none⟩ = some (.int .i64 f1) := hA.x.cell 1 rfl
  have x2 : w1.cell? ⟨s + 1, 2, none⟩ = some (.int .i64 f2) := hA.x.cell 2 rfl
  have x3 : w1.cell? ⟨s + 1, 3, none⟩ = some (.int .i64 f3) := hA.x.cell 3 rfl
  have x4 : w1.cell? ⟨s + 1, 4, none⟩ = some (.int .i64 f4) := hA.x.cell 4 rfl
  have x5 : w1.cell? ⟨s + 1, 5, none⟩ = some (.int .i64 f5) := hA.x.cell 5 rfl
  go_enter Try.func14, Try.ntmps14
  go_wp2_with fail
  clear hw1
  refine wp_onlyN ?_
  have hAd := hA.step (Below.refl _ w1).drew
  have hPd := hP.step (Below.refl _ w1).drew
  refine wp_region_held_drew (S := A3S s (.slice va D.length vc)) (by kernel_rfl) ⟨hAd.wt.cell 0 rfl⟩ (fun hHeld => ?_)
  have z1 : s + 3 ≤ w1.drew.heap.size := hA.z
  clear hA hP ct x0 x1 x2 x3 x4 x5 ls0 ls1 ls2
  change wpAnyH _ _ _ _ _ _ _ _ w1.drew
  generalize w1.drew = w7 at hAd hPd hHeld z1 ⊢
  refine wpAnyH_take (i := 0) (v := ?_) rfl (by kernel_rfl) (by kernel_rfl) (by kernel_rfl) (fun _ _ _ h => h) (Or.inl ⟨by rfl, ?_⟩) (by assumption) ?_
  rotate_left
  · (intro Y hSw; (try dsimp only at hSw); obtain ⟨hS0⟩ := hSw; go_simp; try with_reducible rfl)
  try simp only [Act.put, List.getElem_toArray, List.getElem_cons_zero, List.getElem_cons_succ, List.setIfInBounds_toArray, List.set_cons_zero, List.set_cons_succ]
  refine wpAnyH_take (i := 2) (v := ?_) rfl (by kernel_rfl) (by kernel_rfl) (by kernel_rfl) (fun _ _ _ h => h) (Or.inl ⟨by rfl, ?_⟩) (by assumption) ?_
  rotate_left
  · (intro Y hSw; (try dsimp only at hSw); obtain ⟨hS0⟩ := hSw; go_simp; try with_reducible rfl)
  try simp only [Act.put, List.getElem_toArray, List.getElem_cons_zero, List.getElem_cons_succ, List.setIfInBounds_toArray, List.set_cons_zero, List.set_cons_succ]
  refine wpAnyH_ready (rs := [1]) (by kernel_rfl) (by simp) ?_
  refine AllReadyH.cons rfl (fun K hK => ?_) AllReadyH.nil
  go_simp
  refine (Copy_ok hPd.t).mono ?_; rintro e w8 ⟨c, mc, rfl, hC, l1, l2, k8⟩
  replace hPd := hPd.step k8
  replace hAd := hAd.step k8
  have cr : w8.cell? ⟨s + 1 + 1, 0, none⟩ = some (.slice none 0 0) := hAd.r.cell 0 rfl
  have fr := hAd.r.frozen 0
  go_simp
  refine hK.out _ _ (⟨hAd.wt.cell 0 rfl⟩) (fun hHeld => ?_)
  clear hK K
  try simp only [Act.put, List.getElem_toArray, List.getElem_cons_zero, List.getElem_cons_succ, List.setIfInBounds_toArray, List.set_cons_zero, List.set_cons_succ]
  refine wpAnyH_take (i := 3) (v := ?_) rfl (by kernel_rfl) (by kernel_rfl) (by kernel_rfl) (fun _ _ _ h => h) (Or.inl ⟨by rfl, ?_⟩) (by assumption) ?_
  rotate_left
  · (intro Y hSw; (try dsimp only at hSw); obtain ⟨hS0⟩ := hSw; go_simp; try with_reducible rfl)
  try simp only [Act.put, List.getElem_toArray, List.getElem_cons_zero, List.getElem_cons_succ, List.setIfInBounds_toArray, List.set_cons_zero, List.set_cons_succ]
  refine wpAnyH_ready (rs := [4]) (by kernel_rfl) (by simp) ?_
  refine AllReadyH.cons rfl (fun K hK => ?_) AllReadyH.nil
  go_simp
  have hA8 := hAd.set (.slice va D.length vc)
  refine hK.out _ _ (⟨hA8.wt.cell 0 rfl⟩) (fun hHeld => ?_)
  clear hK K
  try simp only [Act.put, List.getElem_toArray, List.getElem_cons_zero, List.getElem_cons_succ, List.setIfInBounds_toArray, List.set_cons_zero, List.set_cons_succ]
  refine wpAnyH_take (i := 5) (v := ?_) rfl (by kernel_rfl) (by kernel_rfl) (by kernel_rfl) (fun _ _ _ h => h) (Or.inl ⟨by rfl, ?_⟩) (by assumption) ?_
  rotate_left
  · (intro Y hSw; (try dsimp only at hSw); obtain ⟨hS0⟩ := hSw; go_simp; try with_reducible rfl)
  try simp only [Act.put, List.getElem_toArray, List.getElem_cons_zero, List.getElem_cons_succ, List.setIfInBounds_toArray, List.set_cons_zero, List.set_cons_succ]
  refine wpAnyH_done (by kernel_rfl) ?_ _
  rw [onlyN_normal]
  have k9 : Below s w8 (w8.setCell ⟨s + 1 + 1, 0, none⟩ (.slice va D.length vc)) := (Below.refl s w8).setCell (p := ⟨s + 1 + 1, 0, none⟩) (by dsimp only; omega) _
  have hC9 : TblAt (w8.setCell ⟨s + 1 + 1, 0, none⟩ (.slice va D.length vc)) c mc D := ⟨hC.blk.setOther _ _ (by dsimp only; omega), hC.mp.setCell _ _ (by dsimp only; omega)⟩
  have hR8 : RowAt (w8.setCell ⟨s + 1 + 1, 0, none⟩ (.slice va D.length vc)).heap.size (w8.setCell ⟨s + 1 + 1, 0, none⟩ (.slice va D.length vc)) (.slice va D.length vc) D.length (rowT D) := (hPd.r.setBox hAd.r (fun i h => by cases h) _).mono (by simp)
  have hk0 := H.out.k.size
  go_wp2_with fail
  exact ret_pt rfl (s + 1 + 1) rfl hA8.r rfl rfl ⟨c, mc, _, rfl, by rw [HE.out]; exact ⟨⟨hC9, hEg, hR8, hPd.k.setCell (p := ⟨s + 1 + 1, 0, none⟩) (by dsimp only; omega) _, by omega⟩, hA8.c, .inr ⟨by omega, by omega⟩⟩⟩
theorem act_ok {w0 W : World} {b m : Nat} {v : Value} {D : Tb} (h : Pl w0 W b m v D) (hl : D.length ≤ 1000) (x : ActV) (hx1 : x.f1 ≤ 9223372036854775807) :
    Calls Try.prog 14 #[.pointer (some ⟨b, 0, none⟩), .agg #[v], .agg #[.int .i64 x.f0, .int .i64 x.f1, .int .i64 x.f2, .int .i64 x.f3, .int .i64 x.f4, .int .i64 x.f5]] W fun e w' =>
      ∃ b' m' v', e = .returned (.tuple #[.pointer (some ⟨b', 0, none⟩), .agg #[v'], .bool true]) ∧ ActE w0 W w' b m b' m' v' (actD D x) := by
  by_cases h0 : x.f0 = 0
  · exact act0_ok h hl x h0
  by_cases h1 : x.f0 = 1
  · exact act1_ok h hl x h1
  by_cases h2 : x.f0 = 2
  · exact act2_ok h hl x h2
  by_cases h3 : x.f0 = 3
  · exact act3_ok h hl x h3 hx1
  by_cases h4 : x.f0 = 4
  · exact act4_ok h hl x h4 hx1
  · exact act5_ok h hl x ⟨h0, h1, h2, h3, h4⟩
end Go.Proofs.Ytchepkihlnpfeaa
