/-
  Package pinfoldlaw07: act, Copy. Conditions: a pool whose books are in order, the document's beside it.
-/
import Derived.Test.YtfmkjckckekliaaFrDl
namespace Go.Proofs.Ytfmkjckckekliaa
open Go.RowKit
attribute [local go_sem] Oper.semAt_some
set_option maxHeartbeats 1000000
set_option maxRecDepth 8000

theorem PoolAt.setCellsO {W : World} {b bf br g : Nat} {many : Int} {F : List Fr} {R : List (Int × Int)} (h : PoolAt W b bf br many F R) (vs : List Value) (o : Nat) (h1 : b ≠ g) (h2 : bf ≠ g) (h3 : br ≠ g) : PoolAt (W.setCells g o vs) b bf br many F R :=
  ⟨h.blk.setCellsO vs o h1, h.fr.of_block (heap_setCells h2 vs o W), h.re.of_block (heap_setCells h3 vs o W), h.ne⟩
theorem act5_ok {w0 W : World} {b bf br : Nat} {many : Int} {F : List Fr} {R : List (Int × Int)} {v : Value} (h : Pl w0 W b bf br many F R v) (x : ActV) (hx0 : x.what ≠ 0 ∧ x.what ≠ 1 ∧ x.what ≠ 2 ∧ x.what ≠ 3 ∧ x.what ≠ 4) (hxv : RowAt W.heap.size W x.v x.bs.length (intVals .u8 x.bs)) (hbl : x.bs.length ≤ 300) (hbw : ∀ y ∈ x.bs, 0 ≤ y ∧ y < 256) :
    Calls Try.prog 21 #[.pointer (some ⟨b, 0, none⟩), .agg (poolV v (docR R)), .agg #[.int .i64 x.what, .int .i64 x.who, .int .i64 x.n, .int .i64 x.at_, x.v]] W fun e w' =>
      ∃ b' bf' br' F' R' v', e = .returned (.tuple #[.pointer (some ⟨b', 0, none⟩), .agg (poolV v' (docR R')), .bool true]) ∧ ActE w0 W w' b bf br many F R b' bf' br' F' R' v' := by
  obtain ⟨what, who, n, at_, xv, bs⟩ := x
  dsimp only at hx0 hxv hbl hbw ⊢
  have HBW := Lib.hid hbw
  clear hbw
  have HW0 := Lib.hid hx0
  clear hx0
  obtain ⟨a1, c1, rfl, _⟩ := h.r.len
  obtain ⟨a2, c2, rfl, _⟩ := hxv.len
  obtain ⟨w1, hw1⟩ : ∃ w1, ((W.alloc (.cells (poolV (.slice a1 (docL many.toNat F).length c1) (docR R)) 54)).alloc (.cells #[.int .i64 what, .int .i64 who, .int .i64 n, .int .i64 at_, .slice a2 bs.length c2] 38)).alloc (.cells Try.zeroCells54 54) = w1 := ⟨_, rfl⟩
  have hNew := fun w2 u => AcI.new (w2 := w2) (u := u) h hxv hw1
  have HNEW := Lib.hid hNew
  have k0 : Below W.heap.size W w1 := by rw [← hw1]; exact (((Below.refl _ W).alloc (Nat.le_refl _) _).alloc (by simp) _).alloc (by simp; omega) _
  have hx1 := hxv.below k0 (Nat.le_refl _)
  have HXR := Lib.hid hx1
  have hX : Blk w1 (W.heap.size + 1) #[.int .i64 what, .int .i64 who, .int .i64 n, .int .i64 at_, .slice a2 bs.length c2] 38 := by rw [← hw1]; exact (Blk.newAt _ _ _ (by simp)).alloc _
  have x4 : w1.cell? ⟨W.heap.size + 1, 4, none⟩ = some (.slice a2 bs.length c2) := hX.cell 4 rfl
  have ls := hX.lt
  have HK0 := Lib.hid k0
  have HP := Lib.hid h
  clear hNew k0 hx1 hX hxv h
  go_enter Try.func21, Try.ntmps21
  go_wp2_with (at_builtin; refine wpList_append_row rfl _ _ 36 rfl w1.heap.size Try.underlying36 info8 0 [] rfl ?c1 W.heap.size bs.length (intVals .u8 bs) rfl ?c2 ?c3 ?c4 ?c5 ?c6 ?c7 ?_)
  case c1 => exact World.ownsRow_made w1 #[] 0 (Nat.le_refl _) (by decide) rfl
  case c2 => exact HXR.out.below ((Below.refl _ w1).alloc (Nat.le_refl _) _) (by omega)
  case c3 => simp [intVals]
  case c4 => exact intVals_one _ _
  case c5 => unfold maxLen; omega
  case c6 => omega
  case c7 => simp
  intro u w2 ho2 hg2
  have hb2 : Below w1.heap.size w1 w2 := ((Below.refl _ w1).alloc (Nat.le_refl _) _).grown hg2 (by simp) (fun k e => by cases e; exact Nat.le_refl _)
  have hM := HNEW.out w2 u ho2 hb2
  clear hg2 hb2 ho2 HNEW HXR x4 ls hw1
  obtain ⟨s, hs⟩ : ∃ s, W.heap.size = s := ⟨_, rfl⟩
  rw [hs] at hM ⊢
  have hm0 := HP.out.g.snd.m0
  have hm1 := HP.out.g.snd.m1
  have hLl : (docL many.toNat F).length < 1000000 := by rw [docL_len]; omega
  have x0 : w2.cell? ⟨s + 1, 0, none⟩ = some (.int .i64 what) := hM.ax.cell 0 rfl
  have x1 : w2.cell? ⟨s + 1, 1, none⟩ = some (.int .i64 who) := hM.ax.cell 1 rfl
  have x2 : w2.cell? ⟨s + 1, 2, none⟩ = some (.int .i64 n) := hM.ax.cell 2 rfl
  have x3 : w2.cell? ⟨s + 1, 3, none⟩ = some (.int .i64 at_) := hM.ax.cell 3 rfl
  have x4 : w2.cell? ⟨s + 1, 4, none⟩ = some (.slice a2 bs.length c2) := hM.ax.cell 4 rfl
  have HVL := Lib.hid (docR_len R)
  obtain ⟨n0, n1, n2, n3, n4⟩ := HW0.out
  have HR0 := Lib.hid (show RowAt s w2 (.slice a1 (docL many.toNat F).length c1) (docL many.toNat F).length (frV (docL many.toNat F)) from hM.row)
  go_wp2_with fail
  clear x0 x1 x2 x3 x4
  refine wp_onlyN ?_
  refine wp_region_held_drew (S := AcS s s (.slice a1 (docL many.toNat F).length c1) (docR R) #[.int .i64 what, .int .i64 who, .int .i64 n, .int .i64 at_, .slice a2 bs.length c2]) (by kernel_rfl) ⟨hM.t.drew, hM.ax.drew⟩ (fun hHeld => ?_)
  replace hM := hM.step (Below.refl _ w2).drew
  change wpAnyH _ _ _ _ _ _ _ _ w2.drew
  generalize w2.drew = w5 at hM hHeld ⊢
  refine wpAnyH_take (i := 0) (v := ?_) rfl (by kernel_rfl) (by kernel_rfl) (by kernel_rfl) (fun _ _ _ h => h) (Or.inl ⟨by rfl, ?_⟩) (by assumption) ?_
  rotate_left
  · (intro Y hSw; (try dsimp only at hSw); obtain ⟨hS0, hS1⟩ := hSw; go_simp; try with_reducible rfl)
  try simp only [Act.put, List.getElem_toArray, List.getElem_cons_zero, List.getElem_cons_succ, List.setIfInBounds_toArray, List.set_cons_zero, List.set_cons_succ]
  refine wpAnyH_take (i := 2) (v := .agg (poolV (.slice a1 (docL many.toNat F).length c1) (docR R))) rfl (by kernel_rfl) (by kernel_rfl) (by kernel_rfl) (fun _ _ _ h => h) (Or.inl ⟨by rfl, fun Y hSw => exec_loadB ty65 _ rfl s rfl hSw.b (poolV_size _ HVL.out)⟩) (by assumption) ?_
  try simp only [Act.put, List.getElem_toArray, List.getElem_cons_zero, List.getElem_cons_succ, List.setIfInBounds_toArray, List.set_cons_zero, List.set_cons_succ]
  refine wpAnyH_ready (rs := [1]) (by kernel_rfl) (by simp) ?_
  refine AllReadyH.cons rfl (fun K hK => ?_) AllReadyH.nil
  go_simp
  have hs5 := hM.sz
  refine (Copy_ok hM.live.pool).mono ?_; rintro e w6 ⟨b', bf', br', rfl, hp6, lb, lf, lr, k6⟩
  replace hM := hM.step k6
  have hbl6 := hM.live.bel
  clear k6
  go_simp
  refine hK.out _ _ (⟨hM.t, hM.ax⟩) (fun hHeld => ?_)
  clear hK K
  try simp only [Act.put, List.getElem_toArray, List.getElem_cons_zero, List.getElem_cons_succ, List.setIfInBounds_toArray, List.set_cons_zero, List.set_cons_succ]
  refine wpAnyH_take (i := 3) (v := ?_) rfl (by kernel_rfl) (by kernel_rfl) (by kernel_rfl) (fun _ _ _ h => h) (Or.inl ⟨by rfl, ?_⟩) (by assumption) ?_
  rotate_left
  · (intro Y hSw; (try dsimp only at hSw); obtain ⟨hS0, hS1⟩ := hSw; go_simp; try with_reducible rfl)
  try simp only [Act.put, List.getElem_toArray, List.getElem_cons_zero, List.getElem_cons_succ, List.setIfInBounds_toArray, List.set_cons_zero, List.set_cons_succ]
  refine wpAnyH_ready (rs := [4]) (by kernel_rfl) (by simp) ?_
  refine AllReadyH.cons rfl (fun K hK => ?_) AllReadyH.nil
  rw [if_pos (by rfl)]
  refine wp_storeB ty65 _ _ rfl (s + 1 + 1) (poolV (.slice a1 (docL many.toNat F).length c1) (docR R)) rfl rfl hM.r (poolV_size _ rfl) (poolV_size _ HVL.out) (poolV_one rfl _) ?_
  obtain ⟨w9, hw9⟩ : ∃ w9, Hid (w6.setCells (s + 1 + 1) 0 (poolV (.slice a1 (docL many.toNat F).length c1) (docR R)).toList = w9) := ⟨_, Lib.hid rfl⟩
  have hT9 := hM.t.setCellsO (poolV (.slice a1 (docL many.toNat F).length c1) (docR R)).toList 0 (show s ≠ s + 1 + 1 by omega)
  have hX9 := hM.ax.setCellsO (poolV (.slice a1 (docL many.toNat F).length c1) (docR R)).toList 0 (show s + 1 ≠ s + 1 + 1 by omega)
  have hp9 := hp6.setCellsO (g := s + 1 + 1) (poolV (.slice a1 (docL many.toNat F).length c1) (docR R)).toList 0 (by omega) (by omega) (by omega)
  obtain ⟨hO9, hP9, hC9⟩ := hM.fin HP.out.g (Nat.le_of_lt hM.t.lt) hM.row HVL.out hw9
  rw [hw9.out] at hT9 hX9 hp9 ⊢
  have hws := hM.ws
  have hlw : w0.heap.size ≤ s := by have := hM.live.lf; have := hM.lt; omega
  clear hw9 hM
  refine hK.out _ _ (⟨hT9, hX9⟩) (fun hHeld => ?_)
  clear hK K
  try simp only [Act.put, List.getElem_toArray, List.getElem_cons_zero, List.getElem_cons_succ, List.setIfInBounds_toArray, List.set_cons_zero, List.set_cons_succ]
  refine wpAnyH_take (i := 5) (v := ?_) rfl (by kernel_rfl) (by kernel_rfl) (by kernel_rfl) (fun _ _ _ h => h) (Or.inl ⟨by rfl, ?_⟩) (by assumption) ?_
  rotate_left
  · (intro Y hSw; (try dsimp only at hSw); obtain ⟨hS0, hS1⟩ := hSw; go_simp; try with_reducible rfl)
  try simp only [Act.put, List.getElem_toArray, List.getElem_cons_zero, List.getElem_cons_succ, List.setIfInBounds_toArray, List.set_cons_zero, List.set_cons_succ]
  refine wpAnyH_done (by kernel_rfl) ?_ _
  rw [onlyN_normal]
  clear hHeld hT9 hX9
  go_wp2_with fail
  refine ret_pa rfl (s + 1 + 1) rfl hO9 (poolV_size _ HVL.out) rfl ?_
  exact ⟨b', bf', br', F, R, _, rfl, ⟨⟨hp9, hP9.live.bel, by omega, by omega⟩, HP.out.g, hP9.r⟩, hC9, .inr ⟨by omega, by omega, by omega⟩, id⟩
end Go.Proofs.Ytfmkjckckekliaa
