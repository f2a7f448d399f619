/-
  Package pinfoldlaw08: act, its second and third case. Conditions: a table, the document's rows beside it.
-/
import Derived.Test.YtchepkihlnpfeaaPgT
namespace Go.Proofs.Ytchepkihlnpfeaa
open Go.RowKit
attribute [local go_sem] Oper.semAt_some
set_option maxHeartbeats 4000000
set_option maxRecDepth 8000

theorem unm_gone {D : Tb} (hg : Good D) (p : Int) : hasR (unmD D p) p = false := by
  unfold unmD
  split
  · exact delR_has D p
  · rename_i h
    unfold unmE at h
    split at h
    · rename_i hb
      refine hasR_no.2 fun x hx e => ?_
      have := hg.pg x hx
      unfold badP at hb
      have := of_decide_eq_true hb
      omega
    · split at h
      · rename_i hh; exact hh
      · exact absurd rfl h
structure A2S (s9 ga gb : Nat) (v9 : Value) (e : Ent) (Y : World) : Prop where
  t : Y.cell? ⟨s9, 0, none⟩ = some v9
  g0 : Y.cell? ⟨ga, 0, none⟩ = some (.int .i64 e.o)
  g1 : Y.cell? ⟨ga, 1, none⟩ = some (.int .i64 e.m)
  g2 : Y.cell? ⟨ga, 2, none⟩ = some (.int .i64 e.f)
  h0 : Y.cell? ⟨gb, 0, none⟩ = some (.int .i64 e.o)
  h1 : Y.cell? ⟨gb, 1, none⟩ = some (.int .i64 e.m)
  h2 : Y.cell? ⟨gb, 2, none⟩ = some (.int .i64 e.f)
theorem act1_ok {w0 W : World} {b m : Nat} {v : Value} {D : Tb} (h : Pl w0 W b m v D) (hl : D.length ≤ 1000) (x : ActV) (hx : x.f0 = 1) :
    Calls Try.prog 14 #[.pointer (some ⟨b, 0, none⟩), .agg #[v], .agg #[.int .i64 x.f0, .int .i64 x.f1, .int .i64 x.f2, .int .i64 x.f3, .int .i64 x.f4, .int .i64 x.f5]] W fun e w' =>
      ∃ b' m' v', e = .returned (.tuple #[.pointer (some ⟨b', 0, none⟩), .agg #[v'], .bool true]) ∧ ActE w0 W w' b m b' m' v' (actD D x) := by
  obtain ⟨f0, f1, f2, f3, f4, f5⟩ := x
  dsimp only at hx ⊢
  obtain ⟨va, vc, rfl, _⟩ := h.r.len
  have hml := h.t.mp.lt
  obtain ⟨w1, hw1⟩ : ∃ w1, ((W.alloc (.cells #[.slice va D.length vc] 28)).alloc (.cells #[.int .i64 f0, .int .i64 f1, .int .i64 f2, .int .i64 f3, .int .i64 f4, .int .i64 f5] 45)).alloc (.cells #[.slice none 0 0] 28) = w1 := ⟨_, rfl⟩
  have k1 : Below W.heap.size W w1 := by rw [← hw1]; exact (((Below.refl _ W).alloc (Nat.le_refl _) _).alloc (by simp) _).alloc (by simp; omega) _
  have hA : AcI W w1 W.heap.size m (.slice va D.length vc) (.slice none 0 0) ⟨f0, f1, f2, f3, f4, f5⟩ := by
    refine ⟨?_, ?_, ?_, .of_below k1, hml, rfl, ?_⟩
    · rw [← hw1]; exact ((Blk.new W _ _).alloc _).alloc _
    · rw [← hw1]; exact (Blk.newAt _ _ _ (by simp)).alloc _
    · rw [← hw1]; exact Blk.newAt _ _ _ (by simp)
    · rw [← hw1]; simp
  have hP := h.step k1
  obtain ⟨s, hs⟩ : ∃ s, W.heap.size = s := ⟨_, rfl⟩
  have H := Lib.hid h
  rw [hs] at hA hml
  clear h k1
  have hD : actD D ⟨f0, f1, f2, f3, f4, f5⟩ = unmD D f1 := by unfold actD; dsimp only; rw [if_neg (by omega), if_pos hx]
  have HD := Lib.hid hD
  clear hD
  subst hx
  have ls0 : s < w1.heap.size := hA.wt.lt
  have ls1 : s + 1 < w1.heap.size := hA.x.lt
  have ls2 : s + 1 + 1 < w1.heap.size := hA.r.lt
  have ct : w1.cell? ⟨s, 0, none⟩ = some (.slice va D.length vc) := hA.wt.cell 0 rfl
  have x0 : w1.cell? ⟨s + 1, 0, none⟩ = some (.int .i64 1) := hA.x.cell 0 rfl
  have x1 : w1.cell? ⟨s + 1, 1, none⟩ = some (.int .i64 f1) := hA.x.cell 1 rfl
  have x2 : w1.cell? ⟨s + 1, 2, none⟩ = some (.int .i64 f2) := hA.x.cell 2 rfl
  have x3 : w1.cell? ⟨s + 1, 3, none⟩ = some (.int .i64 f3) := hA.x.cell 3 rfl
  have x4 : w1.cell? ⟨s + 1, 4, none⟩ = some (.int .i64 f4) := hA.x.cell 4 rfl
  have x5 : w1.cell? ⟨s + 1, 5, none⟩ = some (.int .i64 f5) := hA.x.cell 5 rfl
  go_enter Try.func14, Try.ntmps14
  go_wp2_with fail
  refine (rUnmap_ok _ D w1.heap.size f1 w1 (Nat.le_refl _) (by omega) hP.g.srt hP.r).mono ?_; rintro e w2 ⟨v9, rfl, r2, k2⟩
  have hP2 := hP.step k2
  have hA2 := hA.step k2
  rw [← HD.out] at r2
  obtain ⟨E, hE⟩ : ∃ E, actD D ⟨1, f1, f2, f3, f4, f5⟩ = E := ⟨_, rfl⟩
  have HE := Lib.hid hE
  rw [hE] at r2 HD
  have hEg : Good E := by rw [← hE]; exact H.out.g.act _
  have hEl : E.length ≤ 1001 := by rw [← hE]; have := actD_len D ⟨1, f1, f2, f3, f4, f5⟩; omega
  clear hw1 ct x0 x1 x2 x3 x4 x5 ls0 ls1 ls2 hA hP k2 hE
  obtain ⟨oa, oc, rfl, _⟩ := r2.len
  have hA := hA2
  obtain ⟨ue, hue⟩ : ∃ ue, unmX D f1 = ue := ⟨_, rfl⟩
  have HUE := Lib.hid hue
  rw [hue]
  obtain ⟨uo, um, uf⟩ := ue
  clear hue
  unfold encE
  have ls0 : s < w2.heap.size := hA.wt.lt
  have ls1 : s + 1 < w2.heap.size := hA.x.lt
  have ls2 : s + 1 + 1 < w2.heap.size := hA.r.lt
  have ct : w2.cell? ⟨s, 0, none⟩ = some (.slice va D.length vc) := hA.wt.cell 0 rfl
  have x0 : w2.cell? ⟨s + 1, 0, none⟩ = some (.int .i64 1) := hA.x.cell 0 rfl
  have x1 : w2.cell? ⟨s + 1, 1, none⟩ = some (.int .i64 f1) := hA.x.cell 1 rfl
  have x2 : w2.cell? ⟨s + 1, 2, none⟩ = some (.int .i64 f2) := hA.x.cell 2 rfl
  have x3 : w2.cell? ⟨s + 1, 3, none⟩ = some (.int .i64 f3) := hA.x.cell 3 rfl
  have x4 : w2.cell? ⟨s + 1, 4, none⟩ = some (.int .i64 f4) := hA.x.cell 4 rfl
  have x5 : w2.cell? ⟨s + 1, 5, none⟩ = some (.int .i64 f5) := hA.x.cell 5 rfl
  have R2 := Lib.hid r2
  have z2 := hA2.z
  clear r2
  go_wp2_with fail
  have k3 : Below w2.heap.size w2 ((w2.alloc (.cells #[.slice oa E.length oc] 28)).alloc (.cells #[.int .i64 uo, .int .i64 um, .int .i64 uf] 31)) := ((Below.refl _ w2).alloc (Nat.le_refl _) _).alloc (by simp) _
  have hT3 : Blk ((w2.alloc (.cells #[.slice oa E.length oc] 28)).alloc (.cells #[.int .i64 uo, .int .i64 um, .int .i64 uf] 31)) w2.heap.size #[.slice oa E.length oc] 28 := (Blk.new w2 _ _).alloc _
  have hU3 : Blk ((w2.alloc (.cells #[.slice oa E.length oc] 28)).alloc (.cells #[.int .i64 uo, .int .i64 um, .int .i64 uf] 31)) (w2.heap.size + 1) #[.int .i64 uo, .int .i64 um, .int .i64 uf] 31 := Blk.newAt _ _ _ (by simp)
  have hP3 := hP2.step k3
  have hA3 := hA2.step k3
  have hR3 := (R2.out.below k3 (Nat.le_refl _))
  clear hA hA2 hP2 R2 ct x0 x1 x2 x3 x4 x5 ls0 ls1 ls2
  obtain ⟨s9, hs9⟩ : ∃ s9, w2.heap.size = s9 := ⟨_, rfl⟩
  rw [hs9] at hT3 hR3 z2 hU3 ⊢
  generalize (w2.alloc (.cells #[.slice oa E.length oc] 28)).alloc (.cells #[.int .i64 uo, .int .i64 um, .int .i64 uf] 31) = w3 at hT3 hP3 hA3 hR3 hU3 ⊢
  clear k3 hs9
  refine (Unmap_ok hP3.t hP3.g.srt f1).mono ?_; rintro e w4 ⟨rfl, h4, k4⟩
  rw [← HD.out] at h4
  rw [HUE.out]
  have hne : s9 ≠ m := by omega
  have hne' : s9 + 1 ≠ m := by omega
  have hT4 := k4.blk hT3 hne
  have hU4 := k4.blk hU3 hne'
  have hA4 := hA3.chg k4
  have hR4 := hR3.chgm hP3.t.mp k4
  have hk4 := hP3.k.trans (k4.below hP3.lo hP3.k.size)
  have hlo := hP3.lo
  clear hP3 hA3 hR3 hT3 hU3 k4 hne hne'
  have hA := hA4
  have HT4 := Lib.hid hT4
  have HU4 := Lib.hid hU4
  have HR4 := Lib.hid hR4
  have ls9 := hU4.lt
  clear hT4 hU4 hR4
  unfold encE
  have ls0 : s < w4.heap.size := hA.wt.lt
  have ls1 : s + 1 < w4.heap.size := hA.x.lt
  have ls2 : s + 1 + 1 < w4.heap.size := hA.r.lt
  have ct : w4.cell? ⟨s, 0, none⟩ = some (.slice va D.length vc) := hA.wt.cell 0 rfl
  have x0 : w4.cell? ⟨s + 1, 0, none⟩ = some (.int .i64 1) := hA.x.cell 0 rfl
  have x1 : w4.cell? ⟨s + 1, 1, none⟩ = some (.int .i64 f1) := hA.x.cell 1 rfl
  have x2 : w4.cell? ⟨s + 1, 2, none⟩ = some (.int .i64 f2) := hA.x.cell 2 rfl
  have x3 : w4.cell? ⟨s + 1, 3, none⟩ = some (.int .i64 f3) := hA.x.cell 3 rfl
  have x4 : w4.cell? ⟨s + 1, 4, none⟩ = some (.int .i64 f4) := hA.x.cell 4 rfl
  have x5 : w4.cell? ⟨s + 1, 5, none⟩ = some (.int .i64 f5) := hA.x.cell 5 rfl
  go_wp2_with fail
  have k5 : Below w4.heap.size w4 (w4.alloc (.cells #[.int .i64 uo, .int .i64 um, .int .i64 uf] 31)) := (Below.refl _ w4).alloc (Nat.le_refl _) _
  have hG5 := Blk.new w4 #[.int .i64 uo, .int .i64 um, .int .i64 uf] 31
  have h5 := h4.step k5
  have hA5 := hA4.step k5
  have hT5 := HT4.out.below k5 HT4.out.lt
  have hU5 := HU4.out.below k5 HU4.out.lt
  have hR5 := HR4.out.below k5 (by omega)
  have hk5 := hk4.trans (k5.mono hk4.size)
  obtain ⟨ga, hga⟩ : ∃ g, w4.heap.size = g := ⟨_, rfl⟩
  rw [hga] at hG5 ls9 ⊢
  clear ct x0 x1 x2 x3 x4 x5 ls0 ls1 ls2 hA HT4 HU4 HR4 h4 hA4 hk4
  generalize w4.alloc (.cells #[.int .i64 uo, .int .i64 um, .int .i64 uf] 31) = w5 at hG5 h5 hA5 hT5 hU5 hR5 hk5 ⊢
  clear k5 hga
  refine (Get_ok h5 f1).mono ?_; rintro e w6 ⟨rfl, k6⟩
  have hno : hasR E f1 = false := by rw [HD.out]; exact unm_gone H.out.g f1
  have hz : getE E f1 = ⟨0, 0, 0⟩ := by unfold getE; rw [getR_none hno]; rfl
  rw [hz, hno]
  have h6 := h5.step k6
  have hA6 := hA5.step k6
  have hT6 := hT5.below k6 hT5.lt
  have hU6 := hU5.below k6 hU5.lt
  have hG6 := hG5.below k6 hG5.lt
  have hR6 := hR5.below k6 (by have := hT5.lt; omega)
  have hk6 := hk5.trans (k6.mono hk5.size)
  clear hno hz h5 hA5 hT5 hU5 hG5 hR5 hk5 k6
  unfold encE
  go_wp2_with fail
  have k7 : Below w6.heap.size w6 (w6.alloc (.cells #[.int .i64 0, .int .i64 0, .int .i64 0] 31)) := (Below.refl _ w6).alloc (Nat.le_refl _) _
  have h7 := h6.step k7
  have hA7 := hA6.step k7
  have hT7 := hT6.below k7 hT6.lt
  have hU7 := hU6.below k7 hU6.lt
  have hG7 := hG6.below k7 hG6.lt
  have hR7 := hR6.below k7 (by have := hT6.lt; omega)
  have hk7 := hk6.trans (k7.mono hk6.size)
  generalize w6.alloc (.cells #[.int .i64 0, .int .i64 0, .int .i64 0] 31) = w7 at h7 hA7 hT7 hU7 hG7 hR7 hk7 ⊢
  clear k7 h6 hA6 hT6 hU6 hG6 hR6 hk6
  refine wp_onlyN ?_
  have hAd := hA7.step (Below.refl _ w7).drew
  have hTd := hT7.below (Below.refl _ w7).drew hT7.lt
  have hUd := hU7.below (Below.refl _ w7).drew hU7.lt
  have hGd := hG7.below (Below.refl _ w7).drew hG7.lt
  have hd := h7.step (Below.refl _ w7).drew
  have hRd := hR7.below (Below.refl w7.heap.size w7).drew (by have := hT7.lt; omega)
  have hkd : Below w0.heap.size w0 w7.drew := hk7.trans ((Below.refl w7.heap.size w7).drew.mono hk7.size)
  refine wp_region_held_drew (S := A2S s9 ga (s9 + 1) (.slice oa E.length oc) ⟨uo, um, uf⟩) (by kernel_rfl) ⟨hTd.cell 0 rfl, hGd.cell 0 rfl, hGd.cell 1 rfl, hGd.cell 2 rfl, hUd.cell 0 rfl, hUd.cell 1 rfl, hUd.cell 2 rfl⟩ (fun hHeld => ?_)
  clear hA7 hT7 hG7 h7 hR7 hk7 hU7
  change wpAnyH _ _ _ _ _ _ _ _ w7.drew
  generalize w7.drew = w8 at hAd hTd hGd hd hRd hkd hUd hHeld ⊢
  have cr : w8.cell? ⟨s + 1 + 1, 0, none⟩ = some (.slice none 0 0) := hAd.r.cell 0 rfl
  have fr := hAd.r.frozen 0
  have zR : s9 ≤ w8.heap.size := Nat.le_of_lt hTd.lt
  refine wpAnyH_take (i := 0) (v := ?_) rfl (by kernel_rfl) (by kernel_rfl) (by kernel_rfl) (fun _ _ _ h => h) (Or.inl ⟨by rfl, ?_⟩) (by assumption) ?_
  rotate_left
  · (intro Y hSw; (try dsimp only at hSw); obtain ⟨hS0, hS1, hS2, hS3, hS4, hS5, hS6⟩ := hSw; go_simp; try with_reducible rfl)
  try simp only [Act.put, List.getElem_toArray, List.getElem_cons_zero, List.getElem_cons_succ, List.setIfInBounds_toArray, List.set_cons_zero, List.set_cons_succ]
  refine wpAnyH_take (i := 1) (v := ?_) rfl (by kernel_rfl) (by kernel_rfl) (by kernel_rfl) (fun _ _ _ h => h) (Or.inl ⟨by rfl, ?_⟩) (by assumption) ?_
  rotate_left
  · (intro Y hSw; (try dsimp only at hSw); obtain ⟨hS0, hS1, hS2, hS3, hS4, hS5, hS6⟩ := hSw; go_simp; try with_reducible rfl)
  try simp only [Act.put, List.getElem_toArray, List.getElem_cons_zero, List.getElem_cons_succ, List.setIfInBounds_toArray, List.set_cons_zero, List.set_cons_succ]
  refine wpAnyH_take (i := 2) (v := ?_) rfl (by kernel_rfl) (by kernel_rfl) (by kernel_rfl) (fun _ _ _ h => h) (Or.inl ⟨by rfl, ?_⟩) (by assumption) ?_
  rotate_left
  · (intro Y hSw; (try dsimp only at hSw); obtain ⟨hS0, hS1, hS2, hS3, hS4, hS5, hS6⟩ := hSw; go_simp; try with_reducible rfl)
  try simp only [Act.put, List.getElem_toArray, List.getElem_cons_zero, List.getElem_cons_succ, List.setIfInBounds_toArray, List.set_cons_zero, List.set_cons_succ]
  refine wpAnyH_take (i := 3) (v := ?_) rfl (by kernel_rfl) (by kernel_rfl) (by kernel_rfl) (fun _ _ _ h => h) (Or.inl ⟨by rfl, ?_⟩) (by assumption) ?_
  rotate_left
  · (intro Y hSw; (try dsimp only at hSw); obtain ⟨hS0, hS1, hS2, hS3, hS4, hS5, hS6⟩ := hSw; go_simp; try with_reducible rfl)
  try simp only [Act.put, List.getElem_toArray, List.getElem_cons_zero, List.getElem_cons_succ, List.setIfInBounds_toArray, List.set_cons_zero, List.set_cons_succ]
  refine wpAnyH_take (i := 4) (v := ?_) rfl (by kernel_rfl) (by kernel_rfl) (by kernel_rfl) (fun _ _ _ h => h) (Or.inl ⟨by rfl, ?_⟩) (by assumption) ?_
  rotate_left
  · (intro Y hSw; (try dsimp only at hSw); obtain ⟨hS0, hS1, hS2, hS3, hS4, hS5, hS6⟩ := hSw; go_simp; try with_reducible rfl)
  try simp only [Act.put, List.getElem_toArray, List.getElem_cons_zero, List.getElem_cons_succ, List.setIfInBounds_toArray, List.set_cons_zero, List.set_cons_succ]
  refine wpAnyH_take (i := 5) (v := ?_) rfl (by kernel_rfl) (by kernel_rfl) (by kernel_rfl) (fun _ _ _ h => h) (Or.inl ⟨by rfl, ?_⟩) (by assumption) ?_
  rotate_left
  · (intro Y hSw; (try dsimp only at hSw); obtain ⟨hS0, hS1, hS2, hS3, hS4, hS5, hS6⟩ := hSw; go_simp; try with_reducible rfl)
  try simp only [Act.put, List.getElem_toArray, List.getElem_cons_zero, List.getElem_cons_succ, List.setIfInBounds_toArray, List.set_cons_zero, List.set_cons_succ]
  refine wpAnyH_take (i := 6) (v := ?_) rfl (by kernel_rfl) (by kernel_rfl) (by kernel_rfl) (fun _ _ _ h => h) (Or.inl ⟨by rfl, ?_⟩) (by assumption) ?_
  rotate_left
  · (intro Y hSw; (try dsimp only at hSw); obtain ⟨hS0, hS1, hS2, hS3, hS4, hS5, hS6⟩ := hSw; go_simp; try with_reducible rfl)
  try simp only [Act.put, List.getElem_toArray, List.getElem_cons_zero, List.getElem_cons_succ, List.setIfInBounds_toArray, List.set_cons_zero, List.set_cons_succ]
  refine wpAnyH_take (i := 8) (v := ?_) rfl (by kernel_rfl) (by kernel_rfl) (by kernel_rfl) (fun _ _ _ h => h) (Or.inl ⟨by rfl, ?_⟩) (by assumption) ?_
  rotate_left
  · (intro Y hSw; (try dsimp only at hSw); obtain ⟨hS0, hS1, hS2, hS3, hS4, hS5, hS6⟩ := hSw; go_simp; try with_reducible rfl)
  try simp only [Act.put, List.getElem_toArray, List.getElem_cons_zero, List.getElem_cons_succ, List.setIfInBounds_toArray, List.set_cons_zero, List.set_cons_succ]
  refine wpAnyH_ready (rs := [7]) (by kernel_rfl) (by simp) ?_
  refine AllReadyH.cons rfl (fun K hK => ?_) AllReadyH.nil
  go_simp
  refine (num_calls _ _).mono ?_; rintro e _ ⟨rfl, rfl⟩
  go_simp
  refine hK.out _ _ (hHeld) (fun hHeld => ?_)
  clear hK K
  try simp only [Act.put, List.getElem_toArray, List.getElem_cons_zero, List.getElem_cons_succ, List.setIfInBounds_toArray, List.set_cons_zero, List.set_cons_succ]
  refine wpAnyH_take (i := 9) (v := ?_) rfl (by kernel_rfl) (by kernel_rfl) (by kernel_rfl) (fun _ _ _ h => h) (Or.inl ⟨by rfl, ?_⟩) (by assumption) ?_
  rotate_left
  · (intro Y hSw; (try dsimp only at hSw); obtain ⟨hS0, hS1, hS2, hS3, hS4, hS5, hS6⟩ := hSw; go_simp; try with_reducible rfl)
  try simp only [Act.put, List.getElem_toArray, List.getElem_cons_zero, List.getElem_cons_succ, List.setIfInBounds_toArray, List.set_cons_zero, List.set_cons_succ]
  refine wpAnyH_take (i := 10) (v := ?_) rfl (by kernel_rfl) (by kernel_rfl) (by kernel_rfl) (fun _ _ _ h => h) (Or.inl ⟨by rfl, ?_⟩) (by assumption) ?_
  rotate_left
  · (intro Y hSw; (try dsimp only at hSw); obtain ⟨hS0, hS1, hS2, hS3, hS4, hS5, hS6⟩ := hSw; go_simp; try with_reducible rfl)
  try simp only [Act.put, List.getElem_toArray, List.getElem_cons_zero, List.getElem_cons_succ, List.setIfInBounds_toArray, List.set_cons_zero, List.set_cons_succ]
  refine wpAnyH_take (i := 11) (v := ?_) rfl (by kernel_rfl) (by kernel_rfl) (by kernel_rfl) (fun _ _ _ h => h) (Or.inl ⟨by rfl, ?_⟩) (by assumption) ?_
  rotate_left
  · (intro Y hSw; (try dsimp only at hSw); obtain ⟨hS0, hS1, hS2, hS3, hS4, hS5, hS6⟩ := hSw; go_simp; try with_reducible rfl)
  try simp only [Act.put, List.getElem_toArray, List.getElem_cons_zero, List.getElem_cons_succ, List.setIfInBounds_toArray, List.set_cons_zero, List.set_cons_succ]
  refine wpAnyH_take (i := 12) (v := ?_) rfl (by kernel_rfl) (by kernel_rfl) (by kernel_rfl) (fun _ _ _ h => h) (Or.inl ⟨by rfl, ?_⟩) (by assumption) ?_
  rotate_left
  · (intro Y hSw; (try dsimp only at hSw); obtain ⟨hS0, hS1, hS2, hS3, hS4, hS5, hS6⟩ := hSw; go_simp; try with_reducible rfl)
  try simp only [Act.put, List.getElem_toArray, List.getElem_cons_zero, List.getElem_cons_succ, List.setIfInBounds_toArray, List.set_cons_zero, List.set_cons_succ]
  refine wpAnyH_take (i := 13) (v := ?_) rfl (by kernel_rfl) (by kernel_rfl) (by kernel_rfl) (fun _ _ _ h => h) (Or.inl ⟨by rfl, ?_⟩) (by assumption) ?_
  rotate_left
  · (intro Y hSw; (try dsimp only at hSw); obtain ⟨hS0, hS1, hS2, hS3, hS4, hS5, hS6⟩ := hSw; go_simp; try with_reducible rfl)
  try simp only [Act.put, List.getElem_toArray, List.getElem_cons_zero, List.getElem_cons_succ, List.setIfInBounds_toArray, List.set_cons_zero, List.set_cons_succ]
  refine wpAnyH_take (i := 14) (v := ?_) rfl (by kernel_rfl) (by kernel_rfl) (by kernel_rfl) (fun _ _ _ h => h) (Or.inl ⟨by rfl, ?_⟩) (by assumption) ?_
  rotate_left
  · (intro Y hSw; (try dsimp only at hSw); obtain ⟨hS0, hS1, hS2, hS3, hS4, hS5, hS6⟩ := hSw; go_simp; try with_reducible rfl)
  try simp only [Act.put, List.getElem_toArray, List.getElem_cons_zero, List.getElem_cons_succ, List.setIfInBounds_toArray, List.set_cons_zero, List.set_cons_succ]
  refine wpAnyH_take (i := 15) (v := ?_) rfl (by kernel_rfl) (by kernel_rfl) (by kernel_rfl) (fun _ _ _ h => h) (Or.inl ⟨by rfl, ?_⟩) (by assumption) ?_
  rotate_left
  · (intro Y hSw; (try dsimp only at hSw); obtain ⟨hS0, hS1, hS2, hS3, hS4, hS5, hS6⟩ := hSw; go_simp; try with_reducible rfl)
  try simp only [Act.put, List.getElem_toArray, List.getElem_cons_zero, List.getElem_cons_succ, List.setIfInBounds_toArray, List.set_cons_zero, List.set_cons_succ]
  refine wpAnyH_ready (rs := [16]) (by kernel_rfl) (by simp) ?_
  refine AllReadyH.cons rfl (fun K hK => ?_) AllReadyH.nil
  go_simp
  have hA8 := hAd.set (.slice oa E.length oc)
  have hT8 := hTd.setOther ⟨s + 1 + 1, 0, none⟩ (.slice oa E.length oc) (by dsimp only; omega)
  have hG8 := hGd.setOther ⟨s + 1 + 1, 0, none⟩ (.slice oa E.length oc) (by dsimp only; omega)
  have hU8 := hUd.setOther ⟨s + 1 + 1, 0, none⟩ (.slice oa E.length oc) (by dsimp only; omega)
  refine hK.out _ _ (⟨hT8.cell 0 rfl, hG8.cell 0 rfl, hG8.cell 1 rfl, hG8.cell 2 rfl, hU8.cell 0 rfl, hU8.cell 1 rfl, hU8.cell 2 rfl⟩) (fun hHeld => ?_)
  clear hK K
  try simp only [Act.put, List.getElem_toArray, List.getElem_cons_zero, List.getElem_cons_succ, List.setIfInBounds_toArray, List.set_cons_zero, List.set_cons_succ]
  refine wpAnyH_take (i := 17) (v := ?_) rfl (by kernel_rfl) (by kernel_rfl) (by kernel_rfl) (fun _ _ _ h => h) (Or.inl ⟨by rfl, ?_⟩) (by assumption) ?_
  rotate_left
  · (intro Y hSw; (try dsimp only at hSw); obtain ⟨hS0, hS1, hS2, hS3, hS4, hS5, hS6⟩ := hSw; go_simp; try with_reducible rfl)
  try simp only [Act.put, List.getElem_toArray, List.getElem_cons_zero, List.getElem_cons_succ, List.setIfInBounds_toArray, List.set_cons_zero, List.set_cons_succ]
  refine wpAnyH_done (by kernel_rfl) ?_ _
  rw [onlyN_normal]
  have k8 : Below s w8 (w8.setCell ⟨s + 1 + 1, 0, none⟩ (.slice oa E.length oc)) := (Below.refl s w8).setCell (p := ⟨s + 1 + 1, 0, none⟩) (by dsimp only; omega) _
  have hbs : b < s := by have := H.out.t.blk.lt; omega
  have hd8 := hd.below k8 hbs hml
  have hR8 : RowAt (w8.setCell ⟨s + 1 + 1, 0, none⟩ (.slice oa E.length oc)).heap.size (w8.setCell ⟨s + 1 + 1, 0, none⟩ (.slice oa E.length oc)) (.slice oa E.length oc) E.length (rowT E) := (hRd.setBox hAd.r (fun i h => by cases h) _).mono (by simpa using zR)
  go_wp2_with fail
  exact ret_pt rfl (s + 1 + 1) rfl hA8.r rfl rfl ⟨b, m, _, rfl, by rw [HE.out]; exact ⟨⟨hd8, hEg, hR8, hkd.setCell (p := ⟨s + 1 + 1, 0, none⟩) (by dsimp only; omega) _, hlo⟩, hA8.c, .inl ⟨rfl, rfl⟩⟩⟩
end Go.Proofs.Ytchepkihlnpfeaa
