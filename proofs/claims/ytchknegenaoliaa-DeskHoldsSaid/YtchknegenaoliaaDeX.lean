/-
  Package pinfoldref21: Destroy. No condition.
-/
import Derived.Test.YtchknegenaoliaaDeW
namespace Go.Proofs.Ytchknegenaoliaa
open Go.RowKit
attribute [local go_sem] Oper.semAt_some
set_option maxHeartbeats 1000000
set_option maxRecDepth 4000

def clrL (H : List Hnd) (l : List Int) : List Hnd := l.foldl (fun H t => H.set t.toNat ⟨0, 0⟩) H
theorem clrL_snoc (H : List Hnd) (l : List Int) (t : Int) : clrL H (l ++ [t]) = (clrL H l).set t.toNat ⟨0, 0⟩ := by unfold clrL; rw [List.foldl_append]; rfl
theorem clrL_len (H : List Hnd) (l : List Int) : (clrL H l).length = H.length := by
  unfold clrL
  induction l generalizing H with
  | nil => rfl
  | cons t l ih => rw [List.foldl_cons, ih, List.length_set]
def rDesT (P : List Ten) (H : List Hnd) (h : Hnd) : List Hnd := if chkE P h = 0 then clrL H (rThr P H h) else H
theorem rThrTo_mem (H : List Hnd) (h : Hnd) : ∀ (n : Nat), ∀ x ∈ rThrTo H h n, 0 ≤ x ∧ x < n
  | 0, x, hx => by cases hx
  | n + 1, x, hx => by
    rw [rThrTo] at hx
    split at hx
    · rcases List.mem_append.1 hx with hx | hx
      · have := rThrTo_mem H h n x hx; omega
      · rw [List.mem_singleton.1 hx]; omega
    · have := rThrTo_mem H h n x hx; omega
theorem rDestroy_ok {P : List Ten} {H : List Hnd} (hL : RefL P H) (h : Hnd) (w : World) :
    Calls Try.prog 36 #[.agg (refV P H), .agg #[.int .i64 h.s, .int .i64 h.g]] w fun e w' => ∃ v, e = .returned (.tuple #[.agg (refV (desP P h) (rDesT P H h)), v, .int .i64 (chkE P h)]) ∧ w'.ownsRow w.heap.size 3 1 v (rThr P H h).length (intVals .i64 (rThr P H h)) ∧ Below w.heap.size w w' := by
  obtain ⟨w0, hw0⟩ : ∃ w0, ((w.alloc (.cells (refV P H) 52)).alloc (.cells #[.int .i64 h.s, .int .i64 h.g] 28)).alloc (.cells (refV [zT, zT, zT, zT] [⟨0, 0⟩, ⟨0, 0⟩, ⟨0, 0⟩, ⟨0, 0⟩]) 52) = w0 := ⟨_, rfl⟩
  have k0 : Below w.heap.size w w0 := by rw [← hw0]; exact (((Below.refl _ w).alloc (Nat.le_refl _) _).alloc (by simp) _).alloc (by simp; omega) _
  have hA : Blk w0 w.heap.size (refV P H) 52 := by rw [← hw0]; exact ((Blk.new w _ _).alloc _).alloc _
  have hB : Blk w0 (w.heap.size + 1) #[.int .i64 h.s, .int .i64 h.g] 28 := by rw [← hw0]; exact (Blk.newAt _ _ _ (by simp)).alloc _
  have hO : Blk w0 (w.heap.size + 1 + 1) (refV [zT, zT, zT, zT] [⟨0, 0⟩, ⟨0, 0⟩, ⟨0, 0⟩, ⟨0, 0⟩]) 52 := by rw [← hw0]; exact Blk.newAt _ _ _ (by simp)
  have hzz : w.heap.size + 3 ≤ w0.heap.size := by have := hO.lt; omega
  obtain ⟨s, hs⟩ : ∃ s, w.heap.size = s := ⟨_, rfl⟩
  have HS := Lib.hid hs
  rw [hs] at hA hB hO k0 hzz
  have hz9 : (refV [zT, zT, zT, zT] [⟨0, 0⟩, ⟨0, 0⟩, ⟨0, 0⟩, ⟨0, 0⟩]).size = 24 := rfl
  have HSZ := Lib.hid hL.size
  have HSZ9 := Lib.hid hz9
  have hw0' : ((w.alloc (.cells (refV P H) 52)).alloc (.cells #[.int .i64 h.s, .int .i64 h.g] 28)).alloc (.cells #[.int .i64 0, .bool false, .int .i64 0, .int .i64 0, .int .i64 0, .bool false, .int .i64 0, .int .i64 0, .int .i64 0, .bool false, .int .i64 0, .int .i64 0, .int .i64 0, .bool false, .int .i64 0, .int .i64 0, .int .i64 0, .int .i64 0, .int .i64 0, .int .i64 0, .int .i64 0, .int .i64 0, .int .i64 0, .int .i64 0] 52) = w0 := hw0
  clear hw0 hz9
  have c0 : w0.cell? ⟨s + 1, 0, none⟩ = some (.int .i64 h.s) := hB.cell 0 rfl
  have c1 : w0.cell? ⟨s + 1, 1, none⟩ = some (.int .i64 h.g) := hB.cell 1 rfl
  obtain ⟨er, her⟩ : ∃ er, chkE P h = er := ⟨_, rfl⟩
  have HE := Lib.hid her
  go_enter Try.func36, Try.ntmps36
  go_wp2_with (first | refine wpList_loadB ty24 rfl _ rfl s rfl (by rw [← hw0', ← hs]; exact ((Blk.new w _ _).alloc _).alloc _) HSZ.out ?_)
  clear hw0' hs
  refine (rCheck_ok hL h w0).mono ?_; rintro e w1 ⟨rfl, k1⟩
  rw [her]
  have hA1 := hA.below k1 hA.lt
  have hB1 := hB.below k1 hB.lt
  have hO1 := hO.below k1 hO.lt
  have kk := k0.trans (k1.mono (by omega))
  have hz1 := k1.size
  clear hA hB hO k0 k1 c0 c1 her
  by_cases h9 : er = 0
  · subst h9
    have HP := Lib.hid (show rDesT P H h = clrL H (rThr P H h) by unfold rDesT; rw [if_pos HE.out])
    have HQ := Lib.hid (show desP P h = P.set h.s.toNat ⟨h.g, false, 0, 0⟩ by unfold desP; rw [if_pos HE.out])
    have c0 : w1.cell? ⟨s + 1, 0, none⟩ = some (.int .i64 h.s) := hB1.cell 0 rfl
    have c1 : w1.cell? ⟨s + 1, 1, none⟩ = some (.int .i64 h.g) := hB1.cell 1 rfl
    go_wp2_with (first | refine wpList_loadB ty24 rfl _ rfl s rfl hA1 HSZ.out ?_)
    refine (rThreads_ok hL h w1).mono ?_; rintro e w2 ⟨v, rfl, ho, k2⟩
    have hA2 := hA1.below k2 hA1.lt
    have hB2 := hB1.below k2 hB1.lt
    have hO2 := hO1.below k2 hO1.lt
    have kk2 := kk.trans (k2.mono (by omega))
    have hmem : ∀ x ∈ rThr P H h, 0 ≤ x ∧ x < 4 := fun x hx => by
      have h1 : rThr P H h = rThrTo H h 4 := by unfold rThr; rw [if_pos HE.out]
      rw [h1] at hx
      exact rThrTo_mem H h 4 x hx
    have hll : (rThr P H h).length ≤ 4 := by
      have h1 : rThr P H h = rThrTo H h 4 := by unfold rThr; rw [if_pos HE.out]
      rw [h1]; exact rThrTo_len H h 4
    have HM := Lib.hid hmem
    obtain ⟨a2, c2, rfl, _⟩ := (RowAt.of_owns ho (Nat.le_refl _)).len
    have HO2 := Lib.hid ho
    obtain ⟨ys, hys⟩ : ∃ ys, rThr P H h = ys := ⟨_, rfl⟩
    rw [hys] at HO2 HM HP hll
    have HYS := Lib.hid hys
    rw [hys]
    have hz2 := k2.size
    have hlb : s + 1 + 1 < w2.heap.size := hO2.lt
    clear hA1 hB1 hO1 kk k2 c0 c1 hmem ho hys
    go_wp2_with fail
    go_loopw [9] (fun i wr => ∃ k : Nat, k ≤ ys.length ∧ i = .int .i64 k ∧ Blk wr s (refV P (clrL H (ys.take k))) 52 ∧ Chg s w2 wr) (fun i _ => ys.length - (intOf i).toNat)
    case atStart => exact ⟨0, by omega, rfl, hA2, Chg.of_below (Below.refl _ _)⟩
    case round =>
      obtain ⟨k, hk, rfl, hAr, hch⟩ := hrel
      clear hA2
      have hor := hch.owns HO2.out (by omega)
      by_cases hlt : k < ys.length
      · obtain ⟨b1, o1, rfl, _, q⟩ := (RowAt.of_owns hor (Nat.le_refl _)).geti k hlt
        have i0 : (0 : Int) ≤ k := by omega
        have i1 : (k : Int) < ys.length := by omega
        have hm := HM.out _ (List.getElem_mem hlt)
        have hsn : clrL H (ys.take (k + 1)) = (clrL H (ys.take k)).set ys[k].toNat ⟨0, 0⟩ := by rw [take_next _ _ hlt, clrL_snoc]
        have hL1 : RefL P (clrL H (ys.take k)) := ⟨hL.p, by rw [clrL_len]; exact hL.h⟩
        generalize ys[k] = y at q hm hsn
        obtain ⟨j, rfl⟩ : ∃ j : Nat, y = j := ⟨y.toNat, by omega⟩
        rw [Int.toNat_natCast] at hsn
        have hj : j < 4 := by omega
        have j0 : (0 : Int) ≤ j := by omega
        have j1 : (j : Int) < 4 := by omega
        obtain ⟨q0, q1⟩ := refV_hnd hL1 j hj
        have u0 := hAr.cell _ q0
        have u1 := hAr.cell _ q1
        have f0 := hAr.frozen (16 + j * 2)
        have f1 := hAr.frozen (16 + j * 2 + 1)
        have HSN := Lib.hid hsn
        have HAr := Lib.hid hAr
        have HCH := Lib.hid hch
        clear q0 q1 hsn hm hor hAr hch
        go_wp2_with fail
        have hA3 := (HAr.out.set (16 + j * 2) (.int .i64 0)).set (16 + j * 2 + 1) (.int .i64 0)
        have hst := refV_setHnd hL1 j hj ⟨0, 0⟩
        dsimp only at hst
        rw [hst] at hA3
        exact ⟨⟨k + 1, by omega, by go_num, by rw [HSN.out]; exact hA3, (HCH.out.setc ⟨s, 16 + j * 2, none⟩ _ rfl).setc ⟨s, 16 + j * 2 + 1, none⟩ _ rfl⟩, by simp [intOf]; omega⟩
      · obtain rfl : k = ys.length := by omega
        rw [List.take_length, ← HP.out] at hAr
        obtain ⟨hs9, hs8, hs7⟩ := chkE_ok.1 HE.out
        have hB3 := hch.blk hB2 (by omega)
        have hO3 := hch.blk hO2 (by omega)
        have kk3 := kk2.trans (hch.below (Nat.le_refl s) (by omega))
        have hL1 : RefL P (rDesT P H h) := ⟨hL.p, by rw [HP.out, clrL_len]; exact hL.h⟩
        obtain ⟨H1, hH1⟩ : ∃ H1, rDesT P H h = H1 := ⟨_, rfl⟩
        rw [hH1] at hAr hL1
        have HH1 := Lib.hid hH1
        clear hH1
        obtain ⟨t, g⟩ := h
        dsimp only at hs9 hB3 HQ
        obtain ⟨j, rfl⟩ : ∃ j : Nat, t = j := ⟨t.toNat, by omega⟩
        rw [Int.toNat_natCast] at HQ
        have hj : j < 4 := by omega
        have i0 : (0 : Int) ≤ j := by omega
        have i1 : (j : Int) < 4 := by omega
        obtain ⟨v0, v1, v2, v3⟩ := refV_ten hL1 j hj
        have r0 := hAr.cell _ v0
        have r1 := hAr.cell _ v1
        have r2 := hAr.cell _ v2
        have r3 := hAr.cell _ v3
        have e0 := hAr.frozen (j * 4)
        have e1 := hAr.frozen (j * 4 + 1)
        have e2 := hAr.frozen (j * 4 + 2)
        have e3 := hAr.frozen (j * 4 + 3)
        have c0 : wr.cell? ⟨s + 1, 0, none⟩ = some (.int .i64 j) := hB3.cell 0 rfl
        have c1 : wr.cell? ⟨s + 1, 1, none⟩ = some (.int .i64 g) := hB3.cell 1 rfl
        have hL2 : RefL (P.set j ⟨g, false, 0, 0⟩) H1 := ⟨by rw [List.length_set]; exact hL.p, hL1.h⟩
        have HSZ2 := Lib.hid hL2.size
        have hA4 := (((hAr.set (j * 4) (.int .i64 g)).set (j * 4 + 1) (.bool false)).set (j * 4 + 2) (.int .i64 0)).set (j * 4 + 3) (.int .i64 0)
        have hst := refV_setTen hL1 j hj ⟨g, false, 0, 0⟩
        dsimp only at hst
        rw [hst] at hA4
        have hne1 : s + 1 + 1 ≠ s := by omega
        have hO4 := (((hO3.setOther ⟨s, j * 4, none⟩ (.int .i64 g) hne1).setOther ⟨s, j * 4 + 1, none⟩ (.bool false) hne1).setOther ⟨s, j * 4 + 2, none⟩ (.int .i64 0) hne1).setOther ⟨s, j * 4 + 3, none⟩ (.int .i64 0) hne1
        have kk4 := (((kk3.setCell (p := ⟨s, j * 4, none⟩) (Nat.le_refl _) (.int .i64 g)).setCell (p := ⟨s, j * 4 + 1, none⟩) (Nat.le_refl _) (.bool false)).setCell (p := ⟨s, j * 4 + 2, none⟩) (Nat.le_refl _) (.int .i64 0)).setCell (p := ⟨s, j * 4 + 3, none⟩) (Nat.le_refl _) (.int .i64 0)
        have hc4 : Chg s wr _ := ((((Chg.of_below (Below.refl _ wr)).setc ⟨s, j * 4, none⟩ (.int .i64 g) rfl).setc ⟨s, j * 4 + 1, none⟩ (.bool false) rfl).setc ⟨s, j * 4 + 2, none⟩ (.int .i64 0) rfl).setc ⟨s, j * 4 + 3, none⟩ (.int .i64 0) rfl
        have ho4 := hc4.owns hor (by omega)
        have HA4 := Lib.hid hA4
        have HO4 := Lib.hid hO4
        have HK4 := Lib.hid kk4
        have HW4 := Lib.hid ho4
        clear v0 v1 v2 v3 hst hA4 hO4 kk4 hc4 ho4 hor hs9 hs8 hs7 hB3 hO3 kk3 hAr hch hB2 hO2 kk2
        go_wp2_with (first | (generalize World.setCell (World.setCell (World.setCell (World.setCell wr _ _) _ _) _ _) _ _ = w9 at HA4 HO4 HK4 HW4 ⊢; refine wpList_loadB ty24 rfl _ rfl s rfl HA4.out HSZ2.out ?_) | (refine wpList_storeB (old := refV [zT, zT, zT, zT] [⟨0, 0⟩, ⟨0, 0⟩, ⟨0, 0⟩, ⟨0, 0⟩]) (t' := 52) ty24 rfl _ _ rfl (s + 1 + 1) (refV (P.set j ⟨g, false, 0, 0⟩) H1) rfl rfl ?q1 ?q2 HSZ2.out (refV_one _ _) ?_; exact HO4.out; exact HSZ9.out))
        have hO5 := HO4.out.whole (refV (P.set j ⟨g, false, 0, 0⟩) H1) (HSZ2.out.trans HSZ9.out.symm)
        have ho5 := ((Chg.of_below (c := s + 1 + 1) (Below.refl _ w9)).setCells (refV (P.set j ⟨g, false, 0, 0⟩) H1).toList 0).owns HW4.out (by omega)
        refine ret_r2 rfl (s + 1 + 1) rfl hO5 HSZ2.out rfl ⟨.slice a2 ys.length c2, ?_, ?_, ?_⟩
        · rw [HQ.out, HH1.out, HE.out]; rfl
        · rw [HYS.out, HS.out]; exact owns_weaken ho5 (by omega)
        · rw [HS.out]; exact bel_setCells HK4.out (by omega) _ _
  · have HP := Lib.hid (show rDesT P H h = H by unfold rDesT; rw [if_neg (by rw [HE.out]; exact h9)])
    have HQ := Lib.hid (show desP P h = P by unfold desP; rw [if_neg (by rw [HE.out]; exact h9)])
    have HR := Lib.hid (show rThr P H h = [] by unfold rThr; rw [if_neg (by rw [HE.out]; exact h9)])
    go_wp2_with (first | refine wpList_loadB ty24 rfl _ rfl s rfl hA1 HSZ.out ?_ | refine wpList_storeB ty24 rfl _ _ rfl (s + 1 + 1) (refV P H) rfl rfl hO1 HSZ9.out HSZ.out (refV_one P H) ?_)
    refine ret_r2 rfl (s + 1 + 1) rfl (hO1.whole (refV P H) (HSZ.out.trans HSZ9.out.symm)) HSZ.out rfl ⟨.slice none 0 0, ?_, ?_, ?_⟩
    · rw [HP.out, HQ.out, HE.out]; rfl
    · rw [HR.out]; exact ⟨rfl, .inl ⟨rfl, rfl⟩⟩
    · rw [HS.out]; exact bel_setCells kk (by omega) _ _
end Go.Proofs.Ytchknegenaoliaa
