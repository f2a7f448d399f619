/-
  Package pinfoldlaw21: asked. Conditions: what stands at a desk.
-/
import Derived.Test.YtchknegenaoliaaDeAb
namespace Go.Proofs.Ytchknegenaoliaa
open Go.RowKit
attribute [local go_sem] Oper.semAt_some
set_option maxHeartbeats 1000000
set_option maxRecDepth 4000

structure AkS (s b m : Nat) (P : List Ten) (T : Thr) (h : Hnd) (Y : World) : Prop where
  d : DkAt Y b m P T
  r : Blk Y s (refV P (hsT T)) 52
  h : Blk Y (s + 1) #[.int .i64 h.s, .int .i64 h.g] 28
theorem AkS.step {s b m : Nat} {P : List Ten} {T : Thr} {h : Hnd} {Y Z : World} (x : AkS s b m P T h Y) (k : Below Y.heap.size Y Z) : AkS s b m P T h Z := ⟨x.d.step k, x.r.below k x.r.lt, x.h.below k x.h.lt⟩
theorem keyV_eq {n : Int} {P : List Ten} {T : Thr} (hg : Good n P T) (h : Hnd) : keyV (thO P T h) = intVals .i64 (rThr P (hsT T) h) ∧ (thO P T h).length = (rThr P (hsT T) h).length := by
  rw [thr_eq hg]
  exact ⟨rfl, by simp⟩
theorem asked_all {w : World} {b m : Nat} {n : Int} {P : List Ten} {T : Thr} (hD : DkAt w b m P T) (hg : Good n P T) (h : Hnd) :
    Calls Try.prog 40 #[.pointer (some ⟨b, 0, none⟩), .agg (refV P (hsT T)), .agg #[.int .i64 h.s, .int .i64 h.g]] w fun e w' => e = .returned (.bool true) ∧ Below w.heap.size w w' := by
  obtain ⟨w0, hw0⟩ : ∃ w0, (w.alloc (.cells (refV P (hsT T)) 52)).alloc (.cells #[.int .i64 h.s, .int .i64 h.g] 28) = w0 := ⟨_, rfl⟩
  have k0 : Below w.heap.size w w0 := by rw [← hw0]; exact ((Below.refl _ w).alloc (Nat.le_refl _) _).alloc (by simp) _
  have hx : AkS w.heap.size b m P T h w0 := ⟨hD.step k0, by rw [← hw0]; exact (Blk.new w _ _).alloc _, by rw [← hw0]; exact Blk.newAt _ _ _ (by simp)⟩
  obtain ⟨s, hs⟩ : ∃ s, w.heap.size = s := ⟨_, rfl⟩
  have HS := Lib.hid hs
  rw [hs] at hx k0
  have hzs : s ≤ w0.heap.size := by have := hx.r.lt; omega
  have hL := hsT_L hg.len T
  have HSZ := Lib.hid hL.size
  have HL := Lib.hid hL
  have HG := Lib.hid hg
  have c0 : w0.cell? ⟨s + 1, 0, none⟩ = some (.int .i64 h.s) := hx.h.cell 0 rfl
  have c1 : w0.cell? ⟨s + 1, 1, none⟩ = some (.int .i64 h.g) := hx.h.cell 1 rfl
  clear hD hg hL
  go_enter Try.func40, Try.ntmps40
  go_wp2_with (first | refine wpList_loadB ty24 rfl _ rfl s rfl (by rw [← hs, ← hw0]; exact (Blk.new w _ _).alloc _) HSZ.out ?_)
  clear hw0 hs
  refine (rCheck_ok HL.out h w0).mono ?_; rintro e w1 ⟨rfl, k1⟩
  replace hx := hx.step k1
  have kk := k0.trans (k1.mono hzs)
  have hz1 := k1.size
  clear k0 k1 c0 c1
  have c0 : w1.cell? ⟨s + 1, 0, none⟩ = some (.int .i64 h.s) := hx.h.cell 0 rfl
  have c1 : w1.cell? ⟨s + 1, 1, none⟩ = some (.int .i64 h.g) := hx.h.cell 1 rfl
  go_wp2_with fail
  refine (Info_ok hx.d h).mono ?_; rintro e w2 ⟨rfl, k2⟩
  replace hx := hx.step k2
  replace kk := kk.trans (k2.mono (by omega))
  have hz2 := k2.size
  obtain ⟨er, her⟩ : ∃ er, chkE P h = er := ⟨_, rfl⟩
  have HE := Lib.hid her
  rw [her]
  clear her k2 c0 c1
  obtain ⟨iq, hiq⟩ : ∃ x, infQ P h = x := ⟨_, rfl⟩
  obtain ⟨jf, hjf⟩ : ∃ x, infF P h = x := ⟨_, rfl⟩
  have HIQ := Lib.hid hiq
  have HIF := Lib.hid hjf
  rw [hiq, hjf]
  clear hiq hjf
  go_wp2_with fail
  refine wp_onlyN ?_
  refine wp_region_held_drew (S := AkS s b m P T h) (by kernel_rfl) (hx.step (Below.refl _ w2).drew) (fun hHeld => ?_)
  replace hx := hx.step (Below.refl _ w2).drew
  replace kk := kk.drew
  have hz3 : w2.heap.size = w2.drew.heap.size := rfl
  rw [hz3] at hz2
  change wpAnyH _ _ _ _ _ _ _ _ w2.drew
  generalize w2.drew = w3 at hx kk hHeld hz2 ⊢
  clear hz3
  refine wpAnyH_take (i := 0) (v := ?_) rfl (by kernel_rfl) (by kernel_rfl) (by kernel_rfl) (fun _ _ _ h => h) (Or.inl ⟨by rfl, ?_⟩) (by assumption) ?_
  rotate_left
  · (intro Y hSw; (try dsimp only at hSw); obtain ⟨hS0, hS1, hS2⟩ := hSw; go_simp; try with_reducible rfl)
  try simp only [Act.put, List.getElem_toArray, List.getElem_cons_zero, List.getElem_cons_succ, List.setIfInBounds_toArray, List.set_cons_zero, List.set_cons_succ]
  refine wpAnyH_take (i := 1) (v := .agg #[.int .i64 h.s, .int .i64 h.g]) rfl (by kernel_rfl) (by kernel_rfl) (by kernel_rfl) (fun _ _ _ h => h) (Or.inl ⟨by rfl, by intro Y hSw; have x0 := hSw.h.cell 0 rfl; have x1 := hSw.h.cell 1 rfl; go_simp⟩) (by assumption) ?_
  try simp only [Act.put, List.getElem_toArray, List.getElem_cons_zero, List.getElem_cons_succ, List.setIfInBounds_toArray, List.set_cons_zero, List.set_cons_succ]
  refine wpAnyH_take (i := 4) (v := ?_) rfl (by kernel_rfl) (by kernel_rfl) (by kernel_rfl) (fun _ _ _ h => h) (Or.inl ⟨by rfl, ?_⟩) (by assumption) ?_
  rotate_left
  · (intro Y hSw; (try dsimp only at hSw); obtain ⟨hS0, hS1, hS2⟩ := hSw; go_simp; try with_reducible rfl)
  try simp only [Act.put, List.getElem_toArray, List.getElem_cons_zero, List.getElem_cons_succ, List.setIfInBounds_toArray, List.set_cons_zero, List.set_cons_succ]
  refine wpAnyH_ready (rs := [2]) (by kernel_rfl) (by simp) ?_
  refine AllReadyH.cons rfl (fun K hK => ?_) AllReadyH.nil
  go_simp
  refine (Check_ok hx.d h).mono ?_; rintro e w4 ⟨rfl, k4⟩
  rw [HE.out]
  replace hx := hx.step k4
  replace kk := kk.trans (k4.mono (by omega))
  have hz4 := k4.size
  go_simp
  refine hK.out _ _ (hx) (fun hHeld => ?_)
  clear hK K
  try simp only [Act.put, List.getElem_toArray, List.getElem_cons_zero, List.getElem_cons_succ, List.setIfInBounds_toArray, List.set_cons_zero, List.set_cons_succ]
  refine wpAnyH_ready (rs := [3]) (by kernel_rfl) (by simp) ?_
  refine AllReadyH.cons rfl (fun K hK => ?_) AllReadyH.nil
  go_simp
  refine (num_calls _ _).mono ?_; rintro e _ ⟨rfl, rfl⟩
  go_simp
  refine hK.out _ _ (hx) (fun hHeld => ?_)
  clear hK K
  try simp only [Act.put, List.getElem_toArray, List.getElem_cons_zero, List.getElem_cons_succ, List.setIfInBounds_toArray, List.set_cons_zero, List.set_cons_succ]
  refine wpAnyH_take (i := 5) (v := ?_) rfl (by kernel_rfl) (by kernel_rfl) (by kernel_rfl) (fun _ _ _ h => h) (Or.inl ⟨by rfl, ?_⟩) (by assumption) ?_
  rotate_left
  · (intro Y hSw; (try dsimp only at hSw); obtain ⟨hS0, hS1, hS2⟩ := hSw; go_simp; try with_reducible rfl)
  try simp only [Act.put, List.getElem_toArray, List.getElem_cons_zero, List.getElem_cons_succ, List.setIfInBounds_toArray, List.set_cons_zero, List.set_cons_succ]
  refine wpAnyH_take (i := 6) (v := ?_) rfl (by kernel_rfl) (by kernel_rfl) (by kernel_rfl) (fun _ _ _ h => h) (Or.inl ⟨by rfl, ?_⟩) (by assumption) ?_
  rotate_left
  · (intro Y hSw; (try dsimp only at hSw); obtain ⟨hS0, hS1, hS2⟩ := hSw; go_simp; try with_reducible rfl)
  try simp only [Act.put, List.getElem_toArray, List.getElem_cons_zero, List.getElem_cons_succ, List.setIfInBounds_toArray, List.set_cons_zero, List.set_cons_succ]
  refine wpAnyH_take (i := 7) (v := ?_) rfl (by kernel_rfl) (by kernel_rfl) (by kernel_rfl) (fun _ _ _ h => h) (Or.inl ⟨by rfl, ?_⟩) (by assumption) ?_
  rotate_left
  · (intro Y hSw; (try dsimp only at hSw); obtain ⟨hS0, hS1, hS2⟩ := hSw; go_simp; try with_reducible rfl)
  try simp only [Act.put, List.getElem_toArray, List.getElem_cons_zero, List.getElem_cons_succ, List.setIfInBounds_toArray, List.set_cons_zero, List.set_cons_succ]
  refine wpAnyH_take (i := 9) (v := ?_) rfl (by kernel_rfl) (by kernel_rfl) (by kernel_rfl) (fun _ _ _ h => h) (Or.inl ⟨by rfl, ?_⟩) (by assumption) ?_
  rotate_left
  · (intro Y hSw; (try dsimp only at hSw); obtain ⟨hS0, hS1, hS2⟩ := hSw; go_simp; try with_reducible rfl)
  try simp only [Act.put, List.getElem_toArray, List.getElem_cons_zero, List.getElem_cons_succ, List.setIfInBounds_toArray, List.set_cons_zero, List.set_cons_succ]
  refine wpAnyH_ready (rs := [8]) (by kernel_rfl) (by simp) ?_
  refine AllReadyH.cons rfl (fun K hK => ?_) AllReadyH.nil
  go_simp
  refine (num_calls _ _).mono ?_; rintro e _ ⟨rfl, rfl⟩
  go_simp
  refine hK.out _ _ (hx) (fun hHeld => ?_)
  clear hK K
  try simp only [Act.put, List.getElem_toArray, List.getElem_cons_zero, List.getElem_cons_succ, List.setIfInBounds_toArray, List.set_cons_zero, List.set_cons_succ]
  refine wpAnyH_take (i := 10) (v := ?_) rfl (by kernel_rfl) (by kernel_rfl) (by kernel_rfl) (fun _ _ _ h => h) (Or.inl ⟨by rfl, ?_⟩) (by assumption) ?_
  rotate_left
  · (intro Y hSw; (try dsimp only at hSw); obtain ⟨hS0, hS1, hS2⟩ := hSw; go_simp; try with_reducible rfl)
  try simp only [Act.put, List.getElem_toArray, List.getElem_cons_zero, List.getElem_cons_succ, List.setIfInBounds_toArray, List.set_cons_zero, List.set_cons_succ]
  refine wpAnyH_take (i := 11) (v := ?_) rfl (by kernel_rfl) (by kernel_rfl) (by kernel_rfl) (fun _ _ _ h => h) (Or.inl ⟨by rfl, ?_⟩) (by assumption) ?_
  rotate_left
  · (intro Y hSw; (try dsimp only at hSw); obtain ⟨hS0, hS1, hS2⟩ := hSw; go_simp; try with_reducible rfl)
  try simp only [Act.put, List.getElem_toArray, List.getElem_cons_zero, List.getElem_cons_succ, List.setIfInBounds_toArray, List.set_cons_zero, List.set_cons_succ]
  refine wpAnyH_take (i := 12) (v := ?_) rfl (by kernel_rfl) (by kernel_rfl) (by kernel_rfl) (fun _ _ _ h => h) (Or.inl ⟨by rfl, ?_⟩) (by assumption) ?_
  rotate_left
  · (intro Y hSw; (try dsimp only at hSw); obtain ⟨hS0, hS1, hS2⟩ := hSw; go_simp; try with_reducible rfl)
  try simp only [Act.put, List.getElem_toArray, List.getElem_cons_zero, List.getElem_cons_succ, List.setIfInBounds_toArray, List.set_cons_zero, List.set_cons_succ]
  refine wpAnyH_take (i := 13) (v := ?_) rfl (by kernel_rfl) (by kernel_rfl) (by kernel_rfl) (fun _ _ _ h => h) (Or.inl ⟨by rfl, ?_⟩) (by assumption) ?_
  rotate_left
  · (intro Y hSw; (try dsimp only at hSw); obtain ⟨hS0, hS1, hS2⟩ := hSw; go_simp; try with_reducible rfl)
  try simp only [Act.put, List.getElem_toArray, List.getElem_cons_zero, List.getElem_cons_succ, List.setIfInBounds_toArray, List.set_cons_zero, List.set_cons_succ]
  refine wpAnyH_take (i := 14) (v := .agg #[.int .i64 h.s, .int .i64 h.g]) rfl (by kernel_rfl) (by kernel_rfl) (by kernel_rfl) (fun _ _ _ h => h) (Or.inl ⟨by rfl, by intro Y hSw; have x0 := hSw.h.cell 0 rfl; have x1 := hSw.h.cell 1 rfl; go_simp⟩) (by assumption) ?_
  try simp only [Act.put, List.getElem_toArray, List.getElem_cons_zero, List.getElem_cons_succ, List.setIfInBounds_toArray, List.set_cons_zero, List.set_cons_succ]
  refine wpAnyH_take (i := 16) (v := .agg (refV P (hsT T))) rfl (by kernel_rfl) (by kernel_rfl) (by kernel_rfl) (fun _ _ _ h => h) (Or.inl ⟨by rfl, fun Y hSw => exec_loadB ty24 _ rfl s rfl hSw.r HSZ.out⟩) (by assumption) ?_
  try simp only [Act.put, List.getElem_toArray, List.getElem_cons_zero, List.getElem_cons_succ, List.setIfInBounds_toArray, List.set_cons_zero, List.set_cons_succ]
  refine wpAnyH_take (i := 17) (v := .agg #[.int .i64 h.s, .int .i64 h.g]) rfl (by kernel_rfl) (by kernel_rfl) (by kernel_rfl) (fun _ _ _ h => h) (Or.inl ⟨by rfl, by intro Y hSw; have x0 := hSw.h.cell 0 rfl; have x1 := hSw.h.cell 1 rfl; go_simp⟩) (by assumption) ?_
  try simp only [Act.put, List.getElem_toArray, List.getElem_cons_zero, List.getElem_cons_succ, List.setIfInBounds_toArray, List.set_cons_zero, List.set_cons_succ]
  refine wpAnyH_ready (rs := [15]) (by kernel_rfl) (by simp) ?_
  refine AllReadyH.cons rfl (fun K hK => ?_) AllReadyH.nil
  go_simp
  refine (Threads_ok hx.d HG.out.srt HG.out.key h).mono ?_; rintro e w5 ⟨v, rfl, ho, k5⟩
  replace hx := hx.step k5
  replace kk := kk.trans (k5.mono (by omega))
  have hz5 := k5.size
  have hr1 : RowAt w5.heap.size w5 v (thO P T h).length (keyV (thO P T h)) := RowAt.of_owns ho (Nat.le_refl _)
  rw [(keyV_eq HG.out h).1, (keyV_eq HG.out h).2] at hr1
  have HR1 := Lib.hid hr1
  go_simp
  refine hK.out _ _ (hx) (fun hHeld => ?_)
  clear hK K
  try simp only [Act.put, List.getElem_toArray, List.getElem_cons_zero, List.getElem_cons_succ, List.setIfInBounds_toArray, List.set_cons_zero, List.set_cons_succ]
  clear ho hr1
  refine wpAnyH_ready (rs := [18]) (by kernel_rfl) (by simp) ?_
  refine AllReadyH.cons rfl (fun K hK => ?_) AllReadyH.nil
  go_simp
  refine (rThreads_ok HL.out h w5).mono ?_; rintro e w6 ⟨u, rfl, ho, k6⟩
  replace hx := hx.step k6
  replace kk := kk.trans (k6.mono (by omega))
  have hz6 := k6.size
  have hr2 : RowAt w6.heap.size w6 u (rThr P (hsT T) h).length (intVals .i64 (rThr P (hsT T) h)) := RowAt.of_owns ho (Nat.le_refl _)
  have HR2 := Lib.hid hr2
  have HR3 := Lib.hid ((HR1.out.below k6 (Nat.le_refl _)).mono hz6)
  have hll : (rThr P (hsT T) h).length < 1000000 := by
    have h1 : (rThr P (hsT T) h).length ≤ 4 := by
      unfold rThr
      split
      · exact rThrTo_len _ _ 4
      · exact Nat.zero_le _
    omega
  have HLL := Lib.hid hll
  go_simp
  refine hK.out _ _ (hx) (fun hHeld => ?_)
  clear hK K
  try simp only [Act.put, List.getElem_toArray, List.getElem_cons_zero, List.getElem_cons_succ, List.setIfInBounds_toArray, List.set_cons_zero, List.set_cons_succ]
  clear ho hr2 hll
  refine wpAnyH_ready (rs := [19]) (by kernel_rfl) (by simp) ?_
  refine AllReadyH.cons rfl (fun K hK => ?_) AllReadyH.nil
  go_simp
  refine (ints_ok v u _ _ rfl w6.heap.size w6 (Nat.le_refl _) HLL.out HR3.out HR2.out).mono ?_; rintro e w7 ⟨rfl, k7⟩
  replace hx := hx.step k7
  replace kk := kk.trans (k7.mono (by omega))
  have hz7 := k7.size
  go_simp
  refine hK.out _ _ (hx) (fun hHeld => ?_)
  clear hK K
  try simp only [Act.put, List.getElem_toArray, List.getElem_cons_zero, List.getElem_cons_succ, List.setIfInBounds_toArray, List.set_cons_zero, List.set_cons_succ]
  refine wpAnyH_take (i := 20) (v := ?_) rfl (by kernel_rfl) (by kernel_rfl) (by kernel_rfl) (fun _ _ _ h => h) (Or.inl ⟨by rfl, ?_⟩) (by assumption) ?_
  rotate_left
  · (intro Y hSw; (try dsimp only at hSw); obtain ⟨hS0, hS1, hS2⟩ := hSw; go_simp; try with_reducible rfl)
  try simp only [Act.put, List.getElem_toArray, List.getElem_cons_zero, List.getElem_cons_succ, List.setIfInBounds_toArray, List.set_cons_zero, List.set_cons_succ]
  refine wpAnyH_take (i := 21) (v := ?_) rfl (by kernel_rfl) (by kernel_rfl) (by kernel_rfl) (fun _ _ _ h => h) (Or.inl ⟨by rfl, ?_⟩) (by assumption) ?_
  rotate_left
  · (intro Y hSw; (try dsimp only at hSw); obtain ⟨hS0, hS1, hS2⟩ := hSw; go_simp; try with_reducible rfl)
  try simp only [Act.put, List.getElem_toArray, List.getElem_cons_zero, List.getElem_cons_succ, List.setIfInBounds_toArray, List.set_cons_zero, List.set_cons_succ]
  refine wpAnyH_done (by kernel_rfl) ?_ _
  rw [onlyN_normal]
  clear HR1 HR2 HR3 hHeld k4 k5 k6 k7
  by_cases h9 : er = 0
  · subst h9
    obtain ⟨h1, _, _⟩ := chkE_ok.1 HE.out
    have hq : iq = (tenD P h.s).q := by rw [← HIQ.out]; unfold infQ; rw [if_pos HE.out]
    have hf : jf = (tenD P h.s).f := by rw [← HIF.out]; unfold infF; rw [if_pos HE.out]
    have hxh := hx.h
    obtain ⟨t, g⟩ := h
    dsimp only at h1 hq hf hxh
    obtain ⟨k, rfl⟩ : ∃ k : Nat, t = k := ⟨t.toNat, by omega⟩
    have hk : k < 4 := by omega
    have i0 : (0 : Int) ≤ k := by omega
    have i1 : (k : Int) < 4 := by omega
    obtain ⟨_, _, q2, q3⟩ := refV_ten HL.out k hk
    have r2 := hx.r.cell _ q2
    have r3 := hx.r.cell _ q3
    have c0 : w7.cell? ⟨s + 1, 0, none⟩ = some (.int .i64 k) := hxh.cell 0 rfl
    rw [← hq] at r2
    rw [← hf] at r3
    clear hq hf q2 q3 hx hxh
    go_wp2_with fail
    go_ret
    exact ⟨rfl, by rw [HS.out]; exact kk⟩
  · have hq : iq = 0 := by rw [← HIQ.out]; unfold infQ; rw [if_neg (by rw [HE.out]; exact h9)]
    have hf : jf = 0 := by rw [← HIF.out]; unfold infF; rw [if_neg (by rw [HE.out]; exact h9)]
    subst hq
    subst hf
    go_wp2_with fail
    go_ret
    exact ⟨rfl, by rw [HS.out]; exact kk⟩
end Go.Proofs.Ytchknegenaoliaa
