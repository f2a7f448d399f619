/-
  Package pinfoldlaw07: act, Take. Conditions: a pool whose books are in order, the document's beside it.
-/
import Derived.Test.YtfmkjckckekliaaFrDl
namespace Go.Proofs.Ytfmkjckckekliaa
open Go.RowKit
attribute [local go_sem] Oper.semAt_some
set_option maxHeartbeats 1000000
set_option maxRecDepth 8000

theorem act1_ok {w0 W : World} {b bf br : Nat} {many : Int} {F : List Fr} {R : List (Int × Int)} {v : Value} (h : Pl w0 W b bf br many F R v) (x : ActV) (hx0 : x.what = 1) (hxv : RowAt W.heap.size W x.v x.bs.length (intVals .u8 x.bs)) (hbl : x.bs.length ≤ 300) (hbw : ∀ y ∈ x.bs, 0 ≤ y ∧ y < 256) :
    Calls Try.prog 21 #[.pointer (some ⟨b, 0, none⟩), .agg (poolV v (docR R)), .agg #[.int .i64 x.what, .int .i64 x.who, .int .i64 x.n, .int .i64 x.at_, x.v]] W fun e w' =>
      ∃ b' bf' br' F' R' v', e = .returned (.tuple #[.pointer (some ⟨b', 0, none⟩), .agg (poolV v' (docR R')), .bool true]) ∧ ActE w0 W w' b bf br many F R b' bf' br' F' R' v' := by
  obtain ⟨what, who, n, at_, xv, bs⟩ := x
  dsimp only at hx0 hxv hbl hbw ⊢
  have HBW := Lib.hid hbw
  clear hbw
  have HW0 := Lib.hid hx0
  clear hx0
  obtain ⟨a1, c1, rfl, _⟩ := h.r.len
  obtain ⟨a2, c2, rfl, _⟩ := hxv.len
  obtain ⟨w1, hw1⟩ : ∃ w1, ((W.alloc (.cells (poolV (.slice a1 (docL many.toNat F).length c1) (docR R)) 54)).alloc (.cells #[.int .i64 what, .int .i64 who, .int .i64 n, .int .i64 at_, .slice a2 bs.length c2] 38)).alloc (.cells Try.zeroCells54 54) = w1 := ⟨_, rfl⟩
  have hNew := fun w2 u => AcI.new (w2 := w2) (u := u) h hxv hw1
  have HNEW := Lib.hid hNew
  have k0 : Below W.heap.size W w1 := by rw [← hw1]; exact (((Below.refl _ W).alloc (Nat.le_refl _) _).alloc (by simp) _).alloc (by simp; omega) _
  have hx1 := hxv.below k0 (Nat.le_refl _)
  have HXR := Lib.hid hx1
  have hX : Blk w1 (W.heap.size + 1) #[.int .i64 what, .int .i64 who, .int .i64 n, .int .i64 at_, .slice a2 bs.length c2] 38 := by rw [← hw1]; exact (Blk.newAt _ _ _ (by simp)).alloc _
  have x4 : w1.cell? ⟨W.heap.size + 1, 4, none⟩ = some (.slice a2 bs.length c2) := hX.cell 4 rfl
  have ls := hX.lt
  have HK0 := Lib.hid k0
  have HP := Lib.hid h
  clear hNew k0 hx1 hX hxv h
  go_enter Try.func21, Try.ntmps21
  go_wp2_with (at_builtin; refine wpList_append_row rfl _ _ 36 rfl w1.heap.size Try.underlying36 info8 0 [] rfl ?c1 W.heap.size bs.length (intVals .u8 bs) rfl ?c2 ?c3 ?c4 ?c5 ?c6 ?c7 ?_)
  case c1 => exact World.ownsRow_made w1 #[] 0 (Nat.le_refl _) (by decide) rfl
  case c2 => exact HXR.out.below ((Below.refl _ w1).alloc (Nat.le_refl _) _) (by omega)
  case c3 => simp [intVals]
  case c4 => exact intVals_one _ _
  case c5 => unfold maxLen; omega
  case c6 => omega
  case c7 => simp
  intro u w2 ho2 hg2
  have hb2 : Below w1.heap.size w1 w2 := ((Below.refl _ w1).alloc (Nat.le_refl _) _).grown hg2 (by simp) (fun k e => by cases e; exact Nat.le_refl _)
  have hM := HNEW.out w2 u ho2 hb2
  clear hg2 hb2 ho2 HNEW HXR x4 ls hw1
  obtain ⟨s, hs⟩ : ∃ s, W.heap.size = s := ⟨_, rfl⟩
  rw [hs] at hM ⊢
  have hm0 := HP.out.g.snd.m0
  have hm1 := HP.out.g.snd.m1
  have hLl : (docL many.toNat F).length < 1000000 := by rw [docL_len]; omega
  have x0 : w2.cell? ⟨s + 1, 0, none⟩ = some (.int .i64 what) := hM.ax.cell 0 rfl
  have x1 : w2.cell? ⟨s + 1, 1, none⟩ = some (.int .i64 who) := hM.ax.cell 1 rfl
  have x2 : w2.cell? ⟨s + 1, 2, none⟩ = some (.int .i64 n) := hM.ax.cell 2 rfl
  have x3 : w2.cell? ⟨s + 1, 3, none⟩ = some (.int .i64 at_) := hM.ax.cell 3 rfl
  have x4 : w2.cell? ⟨s + 1, 4, none⟩ = some (.slice a2 bs.length c2) := hM.ax.cell 4 rfl
  have HVL := Lib.hid (docR_len R)
  rw [HW0.out] at x0
  go_wp2_with (refine wpList_loadB ty65 rfl _ rfl s rfl hM.t (poolV_size _ HVL.out) ?_)
  refine (rTake_ok (.slice a1 (docL many.toNat F).length c1) (docL many.toNat F) s who w2 (by have := hM.sz; omega) hLl HVL.out hM.row).mono ?_; rintro e w3 ⟨v3, rfl, hr3, k3⟩
  rw [HP.out.g.tkL_eq who] at hr3
  rw [HP.out.g.tkI_eq who, HP.out.g.tkE_eq who]
  replace hM := hM.step k3
  have hG2 := HP.out.g.take who
  obtain ⟨er, her⟩ : ∃ er, takErr F R who = er := ⟨_, rfl⟩
  obtain ⟨ti, hti⟩ : ∃ ti, takAt many F R who = ti := ⟨_, rfl⟩
  obtain ⟨F', hF'⟩ : ∃ F', takAfter many F R who = F' := ⟨_, rfl⟩
  have HER := Lib.hid her
  have HTI := Lib.hid hti
  have HF' := Lib.hid hF'
  rw [hF'] at hG2 hr3
  rw [her, hti]
  have HG2 := Lib.hid hG2
  clear k3 her hti hF' hG2 x0 x1 x2 x3 x4
  have HV3 := Lib.hid (docR_len R)
  have HO3 := Lib.hid hr3.one
  have HNB := Lib.hid (zbox w3)
  go_wp2_with (refine wpList_storeBG ty65 rfl _ _ rfl w3.heap.size (poolV v3 (docR R)) rfl rfl HNB.out (poolV_size _ rfl) (poolV_size _ HV3.out) (poolV_one HO3.out _) ?_)
  intro w4 hw4
  obtain ⟨k4, hB4⟩ := newbox HV3.out hw4
  have hsg : s + 3 ≤ w3.heap.size := hM.sz
  replace hM := hM.step k4
  replace hr3 := hr3.below k4 (Nat.le_refl _)
  obtain ⟨g, hg⟩ : ∃ g, w3.heap.size = g := ⟨_, rfl⟩
  rw [hg] at hB4 hsg hr3 ⊢
  clear hw4 k4 HNB hg
  have x1 : w4.cell? ⟨s + 1, 1, none⟩ = some (.int .i64 who) := hM.ax.cell 1 rfl
  go_wp2_with fail
  refine (Take_ok hM.live.pool HP.out.g.snd who (HP.out.g.free who)).mono ?_; rintro e w6 ⟨rfl, hp6, kc6⟩
  rw [HER.out, HTI.out]
  rw [HF'.out] at hp6
  have hlt := hM.lt
  replace hB4 := kc6.blk hB4 (by omega)
  replace hr3 := hr3.chgm hM.live.pool.fr kc6
  replace hr3 := hr3.mono (show g ≤ w6.heap.size from Nat.le_of_lt hB4.lt)
  replace hM := hM.frames hp6 kc6
  clear hp6 kc6 x1
  go_wp2_with fail
  refine wp_onlyN ?_
  refine wp_region_held_drew (S := AcS g s v3 (docR R) #[.int .i64 what, .int .i64 who, .int .i64 n, .int .i64 at_, .slice a2 bs.length c2]) (by kernel_rfl) ⟨hB4.drew, hM.ax.drew⟩ (fun hHeld => ?_)
  replace hr3 := hr3.below (Below.refl _ w6).drew (Nat.le_refl _)
  replace hM := hM.step (Below.refl _ w6).drew
  replace hB4 := hB4.drew
  have hgz := hB4.lt
  change wpAnyH _ _ _ _ _ _ _ _ w6.drew
  replace hr3 : RowAt w6.drew.heap.size w6.drew v3 (docL many.toNat F').length (frV (docL many.toNat F')) := hr3
  generalize w6.drew = w5 at hM hHeld hB4 hr3 hgz ⊢
  refine wpAnyH_take (i := 0) (v := ?_) rfl (by kernel_rfl) (by kernel_rfl) (by kernel_rfl) (fun _ _ _ h => h) (Or.inl ⟨by rfl, ?_⟩) (by assumption) ?_
  rotate_left
  · (intro Y hSw; (try dsimp only at hSw); obtain ⟨hS0, hS1⟩ := hSw; go_simp; try with_reducible rfl)
  try simp only [Act.put, List.getElem_toArray, List.getElem_cons_zero, List.getElem_cons_succ, List.setIfInBounds_toArray, List.set_cons_zero, List.set_cons_succ]
  refine wpAnyH_take (i := 1) (v := .agg (poolV v3 (docR R))) rfl (by kernel_rfl) (by kernel_rfl) (by kernel_rfl) (fun _ _ _ h => h) (Or.inl ⟨by rfl, fun Y hSw => exec_loadB ty65 _ rfl g rfl hSw.b (poolV_size _ HV3.out)⟩) (by assumption) ?_
  try simp only [Act.put, List.getElem_toArray, List.getElem_cons_zero, List.getElem_cons_succ, List.setIfInBounds_toArray, List.set_cons_zero, List.set_cons_succ]
  refine wpAnyH_take (i := 2) (v := ?_) rfl (by kernel_rfl) (by kernel_rfl) (by kernel_rfl) (fun _ _ _ h => h) (Or.inl ⟨by rfl, ?_⟩) (by assumption) ?_
  rotate_left
  · (intro Y hSw; (try dsimp only at hSw); obtain ⟨hS0, hS1⟩ := hSw; go_simp; try with_reducible rfl)
  try simp only [Act.put, List.getElem_toArray, List.getElem_cons_zero, List.getElem_cons_succ, List.setIfInBounds_toArray, List.set_cons_zero, List.set_cons_succ]
  refine wpAnyH_take (i := 3) (v := ?_) rfl (by kernel_rfl) (by kernel_rfl) (by kernel_rfl) (fun _ _ _ h => h) (Or.inl ⟨by rfl, ?_⟩) (by assumption) ?_
  rotate_left
  · (intro Y hSw; (try dsimp only at hSw); obtain ⟨hS0, hS1⟩ := hSw; go_simp; try with_reducible rfl)
  try simp only [Act.put, List.getElem_toArray, List.getElem_cons_zero, List.getElem_cons_succ, List.setIfInBounds_toArray, List.set_cons_zero, List.set_cons_succ]
  refine wpAnyH_take (i := 4) (v := .bool true) rfl (by kernel_rfl) (by kernel_rfl) (by kernel_rfl) (fun _ _ _ h => h) (Or.inl ⟨by rfl, by intro Y hSw; go_simp⟩) (by assumption) ?_
  try simp only [Act.put, List.getElem_toArray, List.getElem_cons_zero, List.getElem_cons_succ, List.setIfInBounds_toArray, List.set_cons_zero, List.set_cons_succ]
  refine wpAnyH_take (i := 5) (v := ?_) rfl (by kernel_rfl) (by kernel_rfl) (by kernel_rfl) (fun _ _ _ h => h) (Or.inl ⟨by rfl, ?_⟩) (by assumption) ?_
  rotate_left
  · (intro Y hSw; (try dsimp only at hSw); obtain ⟨hS0, hS1⟩ := hSw; go_simp; try with_reducible rfl)
  try simp only [Act.put, List.getElem_toArray, List.getElem_cons_zero, List.getElem_cons_succ, List.setIfInBounds_toArray, List.set_cons_zero, List.set_cons_succ]
  refine wpAnyH_take (i := 6) (v := ?_) rfl (by kernel_rfl) (by kernel_rfl) (by kernel_rfl) (fun _ _ _ h => h) (Or.inl ⟨by rfl, ?_⟩) (by assumption) ?_
  rotate_left
  · (intro Y hSw; (try dsimp only at hSw); obtain ⟨hS0, hS1⟩ := hSw; go_simp; try with_reducible rfl)
  try simp only [Act.put, List.getElem_toArray, List.getElem_cons_zero, List.getElem_cons_succ, List.setIfInBounds_toArray, List.set_cons_zero, List.set_cons_succ]
  refine wpAnyH_take (i := 8) (v := ?_) rfl (by kernel_rfl) (by kernel_rfl) (by kernel_rfl) (fun _ _ _ h => h) (Or.inl ⟨by rfl, ?_⟩) (by assumption) ?_
  rotate_left
  · (intro Y hSw; (try dsimp only at hSw); obtain ⟨hS0, hS1⟩ := hSw; go_simp; try with_reducible rfl)
  try simp only [Act.put, List.getElem_toArray, List.getElem_cons_zero, List.getElem_cons_succ, List.setIfInBounds_toArray, List.set_cons_zero, List.set_cons_succ]
  refine wpAnyH_ready (rs := [7]) (by kernel_rfl) (by simp) ?_
  refine AllReadyH.cons rfl (fun K hK => ?_) AllReadyH.nil
  go_simp
  refine (num_calls _ _).mono ?_; rintro e _ ⟨rfl, rfl⟩
  go_simp
  refine hK.out _ _ (⟨hB4, hM.ax⟩) (fun hHeld => ?_)
  clear hK K
  try simp only [Act.put, List.getElem_toArray, List.getElem_cons_zero, List.getElem_cons_succ, List.setIfInBounds_toArray, List.set_cons_zero, List.set_cons_succ]
  refine wpAnyH_take (i := 9) (v := .bool true) rfl (by kernel_rfl) (by kernel_rfl) (by kernel_rfl) (fun _ _ _ h => h) (Or.inl ⟨by rfl, by intro Y hSw; go_simp⟩) (by assumption) ?_
  try simp only [Act.put, List.getElem_toArray, List.getElem_cons_zero, List.getElem_cons_succ, List.setIfInBounds_toArray, List.set_cons_zero, List.set_cons_succ]
  refine wpAnyH_take (i := 10) (v := ?_) rfl (by kernel_rfl) (by kernel_rfl) (by kernel_rfl) (fun _ _ _ h => h) (Or.inl ⟨by rfl, ?_⟩) (by assumption) ?_
  rotate_left
  · (intro Y hSw; (try dsimp only at hSw); obtain ⟨hS0, hS1⟩ := hSw; go_simp; try with_reducible rfl)
  try simp only [Act.put, List.getElem_toArray, List.getElem_cons_zero, List.getElem_cons_succ, List.setIfInBounds_toArray, List.set_cons_zero, List.set_cons_succ]
  refine wpAnyH_take (i := 11) (v := ?_) rfl (by kernel_rfl) (by kernel_rfl) (by kernel_rfl) (fun _ _ _ h => h) (Or.inl ⟨by rfl, ?_⟩) (by assumption) ?_
  rotate_left
  · (intro Y hSw; (try dsimp only at hSw); obtain ⟨hS0, hS1⟩ := hSw; go_simp; try with_reducible rfl)
  try simp only [Act.put, List.getElem_toArray, List.getElem_cons_zero, List.getElem_cons_succ, List.setIfInBounds_toArray, List.set_cons_zero, List.set_cons_succ]
  refine wpAnyH_ready (rs := [12]) (by kernel_rfl) (by simp) ?_
  refine AllReadyH.cons rfl (fun K hK => ?_) AllReadyH.nil
  rw [if_pos (by rfl)]
  refine wp_storeB ty65 _ _ rfl (s + 1 + 1) (poolV v3 (docR R)) rfl rfl hM.r (poolV_size _ rfl) (poolV_size _ HV3.out) (poolV_one HO3.out _) ?_
  obtain ⟨w9, hw9⟩ : ∃ w9, Hid (w5.setCells (s + 1 + 1) 0 (poolV v3 (docR R)).toList = w9) := ⟨_, Lib.hid rfl⟩
  have hB9 := hB4.setCellsO (poolV v3 (docR R)).toList 0 (show _ ≠ s + 1 + 1 by omega)
  have hX9 := hM.ax.setCellsO (poolV v3 (docR R)).toList 0 (show s + 1 ≠ s + 1 + 1 by omega)
  obtain ⟨hO9, hP9, hC9⟩ := hM.fin HG2.out (Nat.le_refl _) hr3 HV3.out hw9
  rw [hw9.out] at hB9 hX9 ⊢
  clear hw9 hM hB4 hr3
  refine hK.out _ _ (⟨hB9, hX9⟩) (fun hHeld => ?_)
  clear hK K
  try simp only [Act.put, List.getElem_toArray, List.getElem_cons_zero, List.getElem_cons_succ, List.setIfInBounds_toArray, List.set_cons_zero, List.set_cons_succ]
  refine wpAnyH_take (i := 13) (v := ?_) rfl (by kernel_rfl) (by kernel_rfl) (by kernel_rfl) (fun _ _ _ h => h) (Or.inl ⟨by rfl, ?_⟩) (by assumption) ?_
  rotate_left
  · (intro Y hSw; (try dsimp only at hSw); obtain ⟨hS0, hS1⟩ := hSw; go_simp; try with_reducible rfl)
  try simp only [Act.put, List.getElem_toArray, List.getElem_cons_zero, List.getElem_cons_succ, List.setIfInBounds_toArray, List.set_cons_zero, List.set_cons_succ]
  refine wpAnyH_done (by kernel_rfl) ?_ _
  rw [onlyN_normal]
  clear hHeld hB9 hX9
  go_wp2_with fail
  refine ret_pa rfl (s + 1 + 1) rfl hO9 (poolV_size _ HV3.out) rfl ?_
  exact ⟨b, bf, br, F', R, v3, rfl, hP9, hC9, .inl ⟨rfl, rfl, rfl⟩, fun h => by rw [← HF'.out]; exact h.take many who⟩
end Go.Proofs.Ytfmkjckckekliaa
