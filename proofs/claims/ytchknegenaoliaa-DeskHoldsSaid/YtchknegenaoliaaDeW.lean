/-
  Package pinfoldref21: Bind. No condition.
-/
import Derived.Test.YtchknegenaoliaaDeV
namespace Go.Proofs.Ytchknegenaoliaa
open Go.RowKit
attribute [local go_sem] Oper.semAt_some
set_option maxHeartbeats 1000000
set_option maxRecDepth 4000

def rBinT (P : List Ten) (H : List Hnd) (t : Int) (h : Hnd) : List Hnd := if binE P t h = 0 then H.set t.toNat h else H
def rBinH (P : List Ten) (H : List Hnd) (t : Int) (h : Hnd) : Hnd := if binE P t h = 0 then hndD H t else ⟨0, 0⟩
theorem badN_inS (t : Int) : badN t 3 = !inS t := by
  unfold badN inS
  by_cases h : 0 ≤ t ∧ t < 4
  · rw [decide_eq_true h, decide_eq_false (by omega)]; rfl
  · rw [decide_eq_false h, decide_eq_true (by omega)]; rfl
structure RbS (s c : Nat) (cs : Array Value) (x : Hnd) (Y : World) : Prop where
  b : Blk Y s cs 52
  x0 : Y.cell? ⟨c, 0, none⟩ = some (.int .i64 x.s)
  x1 : Y.cell? ⟨c, 1, none⟩ = some (.int .i64 x.g)
theorem rBind_ok {P : List Ten} {H : List Hnd} (hL : RefL P H) (t : Int) (h : Hnd) (w : World) :
    Calls Try.prog 38 #[.agg (refV P H), .int .i64 t, .agg #[.int .i64 h.s, .int .i64 h.g]] w fun e w' => e = .returned (.tuple #[.agg (refV P (rBinT P H t h)), encH (rBinH P H t h), .int .i64 (binE P t h)]) ∧ Below w.heap.size w w' := by
  obtain ⟨w0, hw0⟩ : ∃ w0, (((w.alloc (.cells (refV P H) 52)).alloc (.cells #[.int .i64 h.s, .int .i64 h.g] 28)).alloc (.cells (refV [zT, zT, zT, zT] [⟨0, 0⟩, ⟨0, 0⟩, ⟨0, 0⟩, ⟨0, 0⟩]) 52)).alloc (.cells #[.int .i64 0, .int .i64 0] 28) = w0 := ⟨_, rfl⟩
  have k0 : Below w.heap.size w w0 := by rw [← hw0]; exact ((((Below.refl _ w).alloc (Nat.le_refl _) _).alloc (by simp) _).alloc (by simp; omega) _).alloc (by simp; omega) _
  have hA : Blk w0 w.heap.size (refV P H) 52 := by rw [← hw0]; exact (((Blk.new w _ _).alloc _).alloc _).alloc _
  have hB : Blk w0 (w.heap.size + 1) #[.int .i64 h.s, .int .i64 h.g] 28 := by rw [← hw0]; exact ((Blk.newAt _ _ _ (by simp)).alloc _).alloc _
  have hO : Blk w0 (w.heap.size + 1 + 1) (refV [zT, zT, zT, zT] [⟨0, 0⟩, ⟨0, 0⟩, ⟨0, 0⟩, ⟨0, 0⟩]) 52 := by rw [← hw0]; exact (Blk.newAt _ _ _ (by simp)).alloc _
  have hR : Blk w0 (w.heap.size + 1 + 1 + 1) #[.int .i64 0, .int .i64 0] 28 := by rw [← hw0]; exact Blk.newAt _ _ _ (by simp)
  have hzz : w.heap.size + 4 ≤ w0.heap.size := by have := hR.lt; omega
  obtain ⟨s, hs⟩ : ∃ s, w.heap.size = s := ⟨_, rfl⟩
  have HS := Lib.hid hs
  rw [hs] at hA hB hO hR k0 hzz
  have hz9 : (refV [zT, zT, zT, zT] [⟨0, 0⟩, ⟨0, 0⟩, ⟨0, 0⟩, ⟨0, 0⟩]).size = 24 := rfl
  have HSZ := Lib.hid hL.size
  have HSZ9 := Lib.hid hz9
  have hw0' : (((w.alloc (.cells (refV P H) 52)).alloc (.cells #[.int .i64 h.s, .int .i64 h.g] 28)).alloc (.cells #[.int .i64 0, .bool false, .int .i64 0, .int .i64 0, .int .i64 0, .bool false, .int .i64 0, .int .i64 0, .int .i64 0, .bool false, .int .i64 0, .int .i64 0, .int .i64 0, .bool false, .int .i64 0, .int .i64 0, .int .i64 0, .int .i64 0, .int .i64 0, .int .i64 0, .int .i64 0, .int .i64 0, .int .i64 0, .int .i64 0] 52)).alloc (.cells #[.int .i64 0, .int .i64 0] 28) = w0 := hw0
  clear hw0 hz9
  have c0 : w0.cell? ⟨s + 1, 0, none⟩ = some (.int .i64 h.s) := hB.cell 0 rfl
  have c1 : w0.cell? ⟨s + 1, 1, none⟩ = some (.int .i64 h.g) := hB.cell 1 rfl
  obtain ⟨er, her⟩ : ∃ er, binE P t h = er := ⟨_, rfl⟩
  have HE := Lib.hid her
  go_enter Try.func38, Try.ntmps38
  go_wp2_with fail
  clear hw0' hs
  refine (Thread_calls _ _).mono ?_; rintro e _ ⟨rfl, rfl⟩
  by_cases hi : inS t = true
  · rw [hi]
    go_wp2_with fail
    refine (Slot_calls _ _).mono ?_; rintro e _ ⟨rfl, rfl⟩
    by_cases hj : inS h.s = true
    · rw [hj]
      go_wp2_with (first | refine wpList_loadB ty24 rfl _ rfl s rfl hA HSZ.out ?_)
      refine (rCheck_ok hL h w0).mono ?_; rintro e w1 ⟨rfl, k1⟩
      have hce : chkE P h = er := by rw [← her]; unfold binE; rw [badN_inS, hi, if_neg (by decide)]
      rw [hce]
      have hA1 := hA.below k1 hA.lt
      have hB1 := hB.below k1 hB.lt
      have hO1 := hO.below k1 hO.lt
      have hR1 := hR.below k1 hR.lt
      have kk := k0.trans (k1.mono (by omega))
      have hz1 := k1.size
      have HI := Lib.hid hi
      clear hA hB hO hR k0 k1 c0 c1 hce her hi hj
      by_cases h9 : er = 0
      · subst h9
        have hi' := inS_iff.1 HI.out
        obtain ⟨k, rfl⟩ : ∃ k : Nat, t = k := ⟨t.toNat, by omega⟩
        have hk : k < 4 := by omega
        have i0 : (0 : Int) ≤ k := by omega
        have i1 : (k : Int) < 4 := by omega
        have HP := Lib.hid (show rBinT P H k h = H.set k h by unfold rBinT; rw [if_pos HE.out, Int.toNat_natCast])
        have HH := Lib.hid (show rBinH P H k h = hndD H k by unfold rBinH; rw [if_pos HE.out])
        obtain ⟨q0, q1⟩ := refV_hnd hL k hk
        have r0 := hA1.cell _ q0
        have r1 := hA1.cell _ q1
        obtain ⟨x, hx⟩ : ∃ x, hndD H k = x := ⟨_, rfl⟩
        rw [hx] at r0 r1
        have HX := Lib.hid hx
        obtain ⟨w2, hw2⟩ : ∃ w2, w1.alloc (.cells #[.int .i64 x.s, .int .i64 x.g] 28) = w2 := ⟨_, rfl⟩
        have k2 : Below w1.heap.size w1 w2 := by rw [← hw2]; exact (Below.refl _ w1).alloc (Nat.le_refl _) _
        have hX2 : Blk w2 w1.heap.size #[.int .i64 x.s, .int .i64 x.g] 28 := by rw [← hw2]; exact Blk.new w1 _ _
        have b0 : w2.cell? ⟨s + 1, 0, none⟩ = some (.int .i64 h.s) := (hB1.below k2 hB1.lt).cell 0 rfl
        have b1 : w2.cell? ⟨s + 1, 1, none⟩ = some (.int .i64 h.g) := (hB1.below k2 hB1.lt).cell 1 rfl
        have hA2 := hA1.below k2 hA1.lt
        have u0 := hA2.cell _ q0
        have u1 := hA2.cell _ q1
        rw [hx] at u0 u1
        have f0 := hA2.frozen (16 + k * 2)
        have f1 := hA2.frozen (16 + k * 2 + 1)
        have HA2 := Lib.hid hA2
        have HO2 := Lib.hid (hO1.below k2 hO1.lt)
        have HR2 := Lib.hid (hR1.below k2 hR1.lt)
        have HX2 := Lib.hid hX2
        have HK2 := Lib.hid (kk.trans (k2.mono (by omega)))
        have hlx : s + 4 ≤ w1.heap.size := by omega
        clear q0 q1 hx hA1 hB1 hO1 hR1 hA2 hX2 kk k2 hi' hz1 hzz
        go_wp2_with fail
        have hst := refV_setHnd hL k hk h
        have hA3 := (HA2.out.set (16 + k * 2) (.int .i64 h.s)).set (16 + k * 2 + 1) (.int .i64 h.g)
        rw [hst] at hA3
        have hL1 : RefL P (H.set k h) := ⟨hL.p, by rw [List.length_set]; exact hL.h⟩
        have hO3 := (HO2.out.setOther ⟨s, 16 + k * 2, none⟩ (.int .i64 h.s) (by dsimp only; omega)).setOther ⟨s, 16 + k * 2 + 1, none⟩ (.int .i64 h.g) (by dsimp only; omega)
        have hR3 := (HR2.out.setOther ⟨s, 16 + k * 2, none⟩ (.int .i64 h.s) (by dsimp only; omega)).setOther ⟨s, 16 + k * 2 + 1, none⟩ (.int .i64 h.g) (by dsimp only; omega)
        have hX3 := (HX2.out.setOther ⟨s, 16 + k * 2, none⟩ (.int .i64 h.s) (by dsimp only; omega)).setOther ⟨s, 16 + k * 2 + 1, none⟩ (.int .i64 h.g) (by dsimp only; omega)
        have kk3 := (HK2.out.setCell (p := ⟨s, 16 + k * 2, none⟩) (Nat.le_refl _) (.int .i64 h.s)).setCell (p := ⟨s, 16 + k * 2 + 1, none⟩) (Nat.le_refl _) (.int .i64 h.g)
        have HSZ1 := Lib.hid hL1.size
        generalize World.setCell (World.setCell w2 _ _) _ _ = w3 at hA3 hO3 hR3 hX3 kk3 ⊢
        clear hst b0 b1 u0 u1 f0 f1 r0 r1 hw2
        refine wp_onlyN ?_
        refine wp_region_held_drew (S := RbS s w1.heap.size (refV P (H.set k h)) x) (by kernel_rfl) ⟨hA3.drew, hX3.drew.cell 0 rfl, hX3.drew.cell 1 rfl⟩ (fun hHeld => ?_)
        replace hA3 := hA3.drew
        replace hO3 := hO3.drew
        replace hR3 := hR3.drew
        replace hX3 := hX3.drew
        replace kk3 := kk3.drew
        change wpAnyH _ _ _ _ _ _ _ _ w3.drew
        generalize w3.drew = w4 at hA3 hO3 hR3 hX3 kk3 hHeld ⊢
        refine wpAnyH_take (i := 0) (v := .agg (refV P (H.set k h))) rfl (by kernel_rfl) (by kernel_rfl) (by kernel_rfl) (fun _ _ _ h => h) (Or.inl ⟨by rfl, fun Y hSw => exec_loadB ty24 _ rfl s rfl hSw.b HSZ1.out⟩) (by assumption) ?_
        try simp only [Act.put, List.getElem_toArray, List.getElem_cons_zero, List.getElem_cons_succ, List.setIfInBounds_toArray, List.set_cons_zero, List.set_cons_succ]
        refine wpAnyH_take (i := 1) (v := .agg #[.int .i64 x.s, .int .i64 x.g]) rfl (by kernel_rfl) (by kernel_rfl) (by kernel_rfl) (fun _ _ _ h => h) (Or.inl ⟨by rfl, by intro Y hSw; have x0 := hSw.x0; have x1 := hSw.x1; go_simp⟩) (by assumption) ?_
        try simp only [Act.put, List.getElem_toArray, List.getElem_cons_zero, List.getElem_cons_succ, List.setIfInBounds_toArray, List.set_cons_zero, List.set_cons_succ]
        refine wpAnyH_ready (rs := [2]) (by kernel_rfl) (by simp) ?_
        refine AllReadyH.cons rfl (fun K hK => ?_) AllReadyH.nil
        rw [if_pos (by rfl)]
        refine wp_storeB ty24 _ _ rfl (s + 1 + 1) (refV P (H.set k h)) rfl rfl hO3 HSZ9.out HSZ1.out (refV_one P _) ?_
        have hA4 := hA3.setCellsO (refV P (H.set k h)).toList 0 (show s ≠ s + 1 + 1 by omega)
        have hO4 := hO3.whole (refV P (H.set k h)) (HSZ1.out.trans HSZ9.out.symm)
        have hR4 := hR3.setCellsO (refV P (H.set k h)).toList 0 (show s + 1 + 1 + 1 ≠ s + 1 + 1 by omega)
        have hX4 := hX3.setCellsO (refV P (H.set k h)).toList 0 (show w1.heap.size ≠ s + 1 + 1 by omega)
        have kk4 := bel_setCells kk3 (show s ≤ s + 1 + 1 by omega) (refV P (H.set k h)).toList 0
        refine hK.out _ _ (⟨hA4, hX4.cell 0 rfl, hX4.cell 1 rfl⟩) (fun hHeld => ?_)
        clear hK K
        try simp only [Act.put, List.getElem_toArray, List.getElem_cons_zero, List.getElem_cons_succ, List.setIfInBounds_toArray, List.set_cons_zero, List.set_cons_succ]
        generalize World.setCells w4 (s + 1 + 1) 0 _ = w5 at hA4 hO4 hR4 hX4 kk4 hHeld ⊢
        refine wpAnyH_ready (rs := [3]) (by kernel_rfl) (by simp) ?_
        refine AllReadyH.cons rfl (fun K hK => ?_) AllReadyH.nil
        rw [if_pos (by rfl)]
        refine wp_storeB ty2 _ _ rfl (s + 1 + 1 + 1) #[.int .i64 x.s, .int .i64 x.g] rfl rfl hR4 rfl rfl (one2 _ _) ?_
        have hA5 := hA4.setCellsO [.int .i64 x.s, .int .i64 x.g] 0 (show s ≠ s + 1 + 1 + 1 by omega)
        have hO5 := hO4.setCellsO [.int .i64 x.s, .int .i64 x.g] 0 (show s + 1 + 1 ≠ s + 1 + 1 + 1 by omega)
        have hR5 := hR4.whole #[.int .i64 x.s, .int .i64 x.g] rfl
        have hX5 := hX4.setCellsO [.int .i64 x.s, .int .i64 x.g] 0 (show w1.heap.size ≠ s + 1 + 1 + 1 by omega)
        have kk5 := bel_setCells kk4 (show s ≤ s + 1 + 1 + 1 by omega) [.int .i64 x.s, .int .i64 x.g] 0
        refine hK.out _ _ (⟨hA5, hX5.cell 0 rfl, hX5.cell 1 rfl⟩) (fun hHeld => ?_)
        clear hK K
        try simp only [Act.put, List.getElem_toArray, List.getElem_cons_zero, List.getElem_cons_succ, List.setIfInBounds_toArray, List.set_cons_zero, List.set_cons_succ]
        refine wpAnyH_take (i := 4) (v := ?_) rfl (by kernel_rfl) (by kernel_rfl) (by kernel_rfl) (fun _ _ _ h => h) (Or.inl ⟨by rfl, ?_⟩) (by assumption) ?_
        rotate_left
        · (intro Y hSw; (try dsimp only at hSw); obtain ⟨hS0, hS1, hS2⟩ := hSw; go_simp; try with_reducible rfl)
        try simp only [Act.put, List.getElem_toArray, List.getElem_cons_zero, List.getElem_cons_succ, List.setIfInBounds_toArray, List.set_cons_zero, List.set_cons_succ]
        refine wpAnyH_done (by kernel_rfl) ?_ _
        rw [onlyN_normal]
        go_wp2_with fail
        exact ret_r3 rfl (s + 1 + 1) (s + 1 + 1 + 1) rfl rfl hO5 HSZ1.out hR5 rfl rfl ⟨by rw [HE.out, HP.out, HH.out, HX.out]; rfl, by rw [HS.out]; exact kk5⟩
      · have HP := Lib.hid (show rBinT P H t h = H by unfold rBinT; rw [if_neg (by rw [HE.out]; exact h9)])
        have HH := Lib.hid (show rBinH P H t h = ⟨0, 0⟩ by unfold rBinH; rw [if_neg (by rw [HE.out]; exact h9)])
        go_wp2_with (first | refine wpList_loadB ty24 rfl _ rfl s rfl hA1 HSZ.out ?_ | refine wpList_storeB ty24 rfl _ _ rfl (s + 1 + 1) (refV P H) rfl rfl hO1 HSZ9.out HSZ.out (refV_one P H) ?_ | refine wpList_storeB ty2 rfl _ _ rfl (s + 1 + 1 + 1) #[.int .i64 0, .int .i64 0] rfl rfl (hR1.setCellsO (refV P H).toList 0 (by omega)) rfl rfl (one2 _ _) ?_)
        refine ret_r3 rfl (s + 1 + 1) (s + 1 + 1 + 1) rfl rfl ((hO1.whole (refV P H) (HSZ.out.trans HSZ9.out.symm)).setCellsO _ _ (by omega)) HSZ.out ((hR1.setCellsO (refV P H).toList 0 (by omega)).whole #[.int .i64 0, .int .i64 0] rfl) rfl rfl ?_
        exact ⟨by rw [HE.out, HP.out, HH.out]; rfl, by rw [HS.out]; exact bel_setCells (bel_setCells kk (by omega) _ _) (by omega) _ _⟩
    · have hj' : inS h.s = false := by simpa using hj
      rw [hj']
      clear hj
      have h2 : er = 2 := by rw [← her]; unfold binE chkE; rw [badN_inS, hi, if_neg (by decide), if_pos hj']
      subst h2
      have HP := Lib.hid (show rBinT P H t h = H by unfold rBinT; rw [if_neg (by rw [HE.out]; decide)])
      have HH := Lib.hid (show rBinH P H t h = ⟨0, 0⟩ by unfold rBinH; rw [if_neg (by rw [HE.out]; decide)])
      clear her
      go_wp2_with (first | refine wpList_loadB ty24 rfl _ rfl s rfl hA HSZ.out ?_ | refine wpList_storeB ty24 rfl _ _ rfl (s + 1 + 1) (refV P H) rfl rfl hO HSZ9.out HSZ.out (refV_one P H) ?_ | refine wpList_storeB ty2 rfl _ _ rfl (s + 1 + 1 + 1) #[.int .i64 0, .int .i64 0] rfl rfl (hR.setCellsO (refV P H).toList 0 (by omega)) rfl rfl (one2 _ _) ?_)
      refine ret_r3 rfl (s + 1 + 1) (s + 1 + 1 + 1) rfl rfl ((hO.whole (refV P H) (HSZ.out.trans HSZ9.out.symm)).setCellsO _ _ (by omega)) HSZ.out ((hR.setCellsO (refV P H).toList 0 (by omega)).whole #[.int .i64 0, .int .i64 0] rfl) rfl rfl ?_
      exact ⟨by rw [HE.out, HP.out, HH.out]; rfl, by rw [HS.out]; exact bel_setCells (bel_setCells k0 (by omega) _ _) (by omega) _ _⟩
  · have hi' : inS t = false := by simpa using hi
    rw [hi']
    clear hi
    have h2 : er = 2 := by rw [← her]; unfold binE; rw [badN_inS, hi', if_pos (by decide)]
    subst h2
    have HP := Lib.hid (show rBinT P H t h = H by unfold rBinT; rw [if_neg (by rw [HE.out]; decide)])
    have HH := Lib.hid (show rBinH P H t h = ⟨0, 0⟩ by unfold rBinH; rw [if_neg (by rw [HE.out]; decide)])
    clear her
    go_wp2_with (first | refine wpList_loadB ty24 rfl _ rfl s rfl hA HSZ.out ?_ | refine wpList_storeB ty24 rfl _ _ rfl (s + 1 + 1) (refV P H) rfl rfl hO HSZ9.out HSZ.out (refV_one P H) ?_ | refine wpList_storeB ty2 rfl _ _ rfl (s + 1 + 1 + 1) #[.int .i64 0, .int .i64 0] rfl rfl (hR.setCellsO (refV P H).toList 0 (by omega)) rfl rfl (one2 _ _) ?_)
    refine ret_r3 rfl (s + 1 + 1) (s + 1 + 1 + 1) rfl rfl ((hO.whole (refV P H) (HSZ.out.trans HSZ9.out.symm)).setCellsO _ _ (by omega)) HSZ.out ((hR.setCellsO (refV P H).toList 0 (by omega)).whole #[.int .i64 0, .int .i64 0] rfl) rfl rfl ?_
    exact ⟨by rw [HE.out, HP.out, HH.out]; rfl, by rw [HS.out]; exact bel_setCells (bel_setCells k0 (by omega) _ _) (by omega) _ _⟩
end Go.Proofs.Ytchknegenaoliaa
