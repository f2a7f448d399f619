/-
  Package pinfoldlaw07: act, Write. Conditions: a pool whose books are in order, the document's beside it.
-/
import Derived.Test.YtfmkjckckekliaaFrDo
namespace Go.Proofs.Ytfmkjckckekliaa
open Go.RowKit
attribute [local go_sem] Oper.semAt_some
set_option maxHeartbeats 1000000
set_option maxRecDepth 8000

/-- A byte is no cell of a row of frames. -/
theorem RowAt.setU8 {B n g k : Nat} {W : World} {v : Value} {E : List Df} {y : Int} (h : RowAt B W v n (frV E)) (hq : W.cell? ⟨g, k, none⟩ = some (.int .u8 y)) (z : Value) : RowAt B (W.setCell ⟨g, k, none⟩ z) v n (frV E) := by
  obtain ⟨a, c, e, h1, h2⟩ := h
  refine ⟨a, c, e, h1, ?_⟩
  rcases h2 with h2 | ⟨b, off, e2, hlt, hc⟩
  · exact .inl h2
  · refine .inr ⟨b, off, e2, hlt, fun i hi => ?_⟩
    have h3 := hc i hi
    have hne : (⟨g, k, none⟩ : Addr) ≠ ⟨b, off + i, none⟩ := by
      intro e9
      rw [← e9, hq, List.getElem?_eq_getElem hi] at h3
      have h4 := Option.some.inj h3
      obtain ⟨x, _, hx⟩ := List.mem_flatMap.1 (List.getElem_mem hi)
      rw [← h4] at hx
      simp at hx
    exact (World.cell?_setCell_other _ _ _ _ hne).trans h3
theorem owns_ne {W : World} {base g g4 cap n : Nat} {xs : List Value} {cs : Array Value} (h : W.ownsRow base 5 1 (.slice (some ⟨g4, 0, none⟩) n cap) n xs) (hB : Blk W g cs 54) : g4 ≠ g := by
  rintro rfl
  obtain ⟨hn, hx⟩ := h
  rcases hx with ⟨h1, _⟩ | ⟨g', cap', cur, e1, hlo, hgb, _⟩
  · cases h1
  · simp only [Value.slice.injEq, Option.some.injEq, Addr.mk.injEq, true_and, and_true] at e1
    obtain ⟨rfl, rfl⟩ := e1
    unfold Blk at hB
    rw [hB] at hgb
    simp at hgb
theorem act3_ok {w0 W : World} {b bf br : Nat} {many : Int} {F : List Fr} {R : List (Int × Int)} {v : Value} (h : Pl w0 W b bf br many F R v) (x : ActV) (hx0 : x.what = 3) (hxv : RowAt W.heap.size W x.v x.bs.length (intVals .u8 x.bs)) (hbl : x.bs.length ≤ 300) (hbw : ∀ y ∈ x.bs, 0 ≤ y ∧ y < 256) :
    Calls Try.prog 21 #[.pointer (some ⟨b, 0, none⟩), .agg (poolV v (docR R)), .agg #[.int .i64 x.what, .int .i64 x.who, .int .i64 x.n, .int .i64 x.at_, x.v]] W fun e w' =>
      ∃ b' bf' br' F' R' v', e = .returned (.tuple #[.pointer (some ⟨b', 0, none⟩), .agg (poolV v' (docR R')), .bool true]) ∧ ActE w0 W w' b bf br many F R b' bf' br' F' R' v' := by
  obtain ⟨what, who, n, at_, xv, bs⟩ := x
  dsimp only at hx0 hxv hbl hbw ⊢
  have HBW := Lib.hid hbw
  clear hbw
  have HW0 := Lib.hid hx0
  clear hx0
  obtain ⟨a1, c1, rfl, _⟩ := h.r.len
  obtain ⟨a2, c2, rfl, _⟩ := hxv.len
  obtain ⟨w1, hw1⟩ : ∃ w1, ((W.alloc (.cells (poolV (.slice a1 (docL many.toNat F).length c1) (docR R)) 54)).alloc (.cells #[.int .i64 what, .int .i64 who, .int .i64 n, .int .i64 at_, .slice a2 bs.length c2] 38)).alloc (.cells Try.zeroCells54 54) = w1 := ⟨_, rfl⟩
  have hNew := fun w2 u => AcI.new (w2 := w2) (u := u) h hxv hw1
  have HNEW := Lib.hid hNew
  have k0 : Below W.heap.size W w1 := by rw [← hw1]; exact (((Below.refl _ W).alloc (Nat.le_refl _) _).alloc (by simp) _).alloc (by simp; omega) _
  have hx1 := hxv.below k0 (Nat.le_refl _)
  have HXR := Lib.hid hx1
  have hX : Blk w1 (W.heap.size + 1) #[.int .i64 what, .int .i64 who, .int .i64 n, .int .i64 at_, .slice a2 bs.length c2] 38 := by rw [← hw1]; exact (Blk.newAt _ _ _ (by simp)).alloc _
  have x4 : w1.cell? ⟨W.heap.size + 1, 4, none⟩ = some (.slice a2 bs.length c2) := hX.cell 4 rfl
  have ls := hX.lt
  have HK0 := Lib.hid k0
  have HP := Lib.hid h
  clear hNew k0 hx1 hX hxv h
  go_enter Try.func21, Try.ntmps21
  go_wp2_with (at_builtin; refine wpList_append_row rfl _ _ 36 rfl w1.heap.size Try.underlying36 info8 0 [] rfl ?c1 W.heap.size bs.length (intVals .u8 bs) rfl ?c2 ?c3 ?c4 ?c5 ?c6 ?c7 ?_)
  case c1 => exact World.ownsRow_made w1 #[] 0 (Nat.le_refl _) (by decide) rfl
  case c2 => exact HXR.out.below ((Below.refl _ w1).alloc (Nat.le_refl _) _) (by omega)
  case c3 => simp [intVals]
  case c4 => exact intVals_one _ _
  case c5 => unfold maxLen; omega
  case c6 => omega
  case c7 => simp
  intro u w2 ho2 hg2
  have hb2 : Below w1.heap.size w1 w2 := ((Below.refl _ w1).alloc (Nat.le_refl _) _).grown hg2 (by simp) (fun k e => by cases e; exact Nat.le_refl _)
  have hM := HNEW.out w2 u ho2 hb2
  clear hg2 hb2 ho2 HNEW HXR x4 ls hw1
  obtain ⟨s, hs⟩ : ∃ s, W.heap.size = s := ⟨_, rfl⟩
  rw [hs] at hM ⊢
  have hm0 := HP.out.g.snd.m0
  have hm1 := HP.out.g.snd.m1
  have hLl : (docL many.toNat F).length < 1000000 := by rw [docL_len]; omega
  have x0 : w2.cell? ⟨s + 1, 0, none⟩ = some (.int .i64 what) := hM.ax.cell 0 rfl
  have x1 : w2.cell? ⟨s + 1, 1, none⟩ = some (.int .i64 who) := hM.ax.cell 1 rfl
  have x2 : w2.cell? ⟨s + 1, 2, none⟩ = some (.int .i64 n) := hM.ax.cell 2 rfl
  have x3 : w2.cell? ⟨s + 1, 3, none⟩ = some (.int .i64 at_) := hM.ax.cell 3 rfl
  have x4 : w2.cell? ⟨s + 1, 4, none⟩ = some (.slice a2 bs.length c2) := hM.ax.cell 4 rfl
  have HVL := Lib.hid (docR_len R)
  rw [HW0.out] at x0
  go_wp2_with (refine wpList_loadB ty65 rfl _ rfl s rfl hM.t (poolV_size _ HVL.out) ?_)
  have h256 := docL_256 HP.out.g
  refine (rWrite_ok (.slice a1 (docL many.toNat F).length c1) (docL many.toNat F) s n at_ bs (.slice a2 bs.length c2) w2 (by have := hM.sz; omega) hLl HVL.out h256 hM.row hM.bx).mono ?_; rintro e w3 ⟨v3, rfl, hr3, k3⟩
  rw [HP.out.g.wrL_eq n at_ bs] at hr3
  rw [asE_eq HP.out.g n at_ bs.length]
  replace hM := hM.step k3
  have hG2 := HP.out.g.write n at_ bs
  obtain ⟨er, her⟩ : ∃ er, thrErr many F n at_ bs.length = er := ⟨_, rfl⟩
  obtain ⟨F', hF'⟩ : ∃ F', wrtAfter many F n at_ bs = F' := ⟨_, rfl⟩
  have HER := Lib.hid her
  have HF' := Lib.hid hF'
  rw [hF'] at hG2 hr3
  rw [her]
  have HG2 := Lib.hid hG2
  clear k3 her hF' hG2 x0 x1 x2 x3 x4 h256
  have HV3 := Lib.hid (docR_len R)
  have HO3 := Lib.hid hr3.one
  have HNB := Lib.hid (zbox w3)
  go_wp2_with (refine wpList_storeBG ty65 rfl _ _ rfl w3.heap.size (poolV v3 (docR R)) rfl rfl HNB.out (poolV_size _ rfl) (poolV_size _ HV3.out) (poolV_one HO3.out _) ?_)
  intro w4 hw4
  obtain ⟨k4, hB4⟩ := newbox HV3.out hw4
  have hsg : s + 3 ≤ w3.heap.size := hM.sz
  replace hM := hM.step k4
  replace hr3 := hr3.below k4 (Nat.le_refl _)
  obtain ⟨g, hg⟩ : ∃ g, w3.heap.size = g := ⟨_, rfl⟩
  rw [hg] at hB4 hsg hr3 ⊢
  clear hw4 k4 HNB hg
  have x2 : w4.cell? ⟨s + 1, 2, none⟩ = some (.int .i64 n) := hM.ax.cell 2 rfl
  have x3 : w4.cell? ⟨s + 1, 3, none⟩ = some (.int .i64 at_) := hM.ax.cell 3 rfl
  have hown := hM.own
  have hru := RowAt.of_owns hown (Nat.le_refl _)
  obtain ⟨au, cu, rfl, _⟩ := hru.len
  have HRU := Lib.hid hru
  clear hru hown
  go_wp2_with fail
  refine (Write_ok hM.live.pool HP.out.g.snd.b256 n at_ bs HRU.out rfl).mono ?_; rintro e w6 ⟨rfl, hp6, kc6⟩
  rw [show wrtErr many F n at_ bs = er from HER.out]
  rw [HF'.out] at hp6
  have hlt := hM.lt
  replace hB4 := kc6.blk hB4 (by omega)
  replace hr3 := (hr3.chgm hM.live.pool.fr kc6).mono (show g ≤ w6.heap.size from Nat.le_of_lt hB4.lt)
  replace hM := hM.frames hp6 kc6
  clear hp6 kc6 x2 x3 HRU
  obtain ⟨m, hm⟩ : ∃ m, bs.length = m := ⟨_, rfl⟩
  have HML := Lib.hid hm
  have ho4 := hM.own
  have hK := hM.k
  dsimp only at ho4
  rw [hm] at ho4 hbl ⊢
  have HK0 := Lib.hid hK
  have HO4 := Lib.hid ho4
  have hgg := hB4.lt
  have HB4 := Lib.hid hB4
  have HR3 := Lib.hid hr3
  clear hM hK ho4 hm hB4 hr3
  go_wp2_with fail
  go_loopw [22] (fun i wr => ∃ (k : Nat) (ys : List Int), k ≤ m ∧ i = .int .i64 k ∧ m = ys.length ∧ wr.ownsRow (s + 1 + 1 + 1) 5 1 (.slice au m cu) m (intVals .u8 ys) ∧ AcK w0 W wr b bf br s many F' R (.slice a1 (docL many.toNat F).length c1) (docR R) (docL many.toNat F) ⟨what, who, n, at_, .slice a2 m c2, bs⟩ ∧
    Blk wr g (poolV v3 (docR R)) 54 ∧ RowAt wr.heap.size wr v3 (docL many.toNat F').length (frV (docL many.toNat F'))) (fun i _ => m - (intOf i).toNat)
  case atStart => exact ⟨0, bs, by omega, rfl, HML.out.symm, HO4.out, by have := HK0.out; rw [HML.out] at this; exact this, HB4.out, HR3.out⟩
  case round =>
    obtain ⟨k, ys, hk, rfl, hy, ho, hK, hB4, hr3⟩ := hrel
    clear HK0 HO4 HB4 HR3 hgg
    by_cases hlt : k < m
    · obtain ⟨g4, cap4, e4, hg4, _⟩ := World.ownsRow.form ho (by omega)
      simp only [Value.slice.injEq, true_and] at e4
      obtain ⟨rfl, rfl⟩ := e4
      obtain ⟨y, q0, qf, _⟩ := bytes_at ho hy k hlt 0
      obtain ⟨z, hz⟩ : ∃ z, IntKind.u8.wrap (y + 1) = z := ⟨_, rfl⟩
      obtain ⟨_, _, _, ho2⟩ := bytes_at ho hy k hlt z
      have hng := owns_ne ho hB4
      have HO2 := Lib.hid ho2
      have HK2 := Lib.hid (hK.setO (a := ⟨g4, k, none⟩) (by dsimp only; omega) (.int .u8 z))
      have HB2 := Lib.hid (hB4.setOther ⟨g4, k, none⟩ (.int .u8 z) (by dsimp only; omega))
      have hr4 := hr3.setU8 q0 (.int .u8 z)
      have HR2 := Lib.hid (hr4.mono (show wr.heap.size ≤ (wr.setCell ⟨g4, k, none⟩ (.int .u8 z)).heap.size by simp))
      have HY := Lib.hid (show m = (ys.set k z).length by rw [List.length_set]; exact hy)
      have i0 : (0 : Int) ≤ k := by omega
      have i1 : (k : Int) < m := by omega
      clear ho2 ho hK hy hr3 hr4 hB4 hng
      go_wp2_with fail
      exact ⟨⟨k + 1, _, by omega, by go_num, HY.out, HO2.out, HK2.out, HB2.out, HR2.out⟩, by simp [intOf]; omega⟩
    · obtain rfl : k = m := by omega
      have HK2 := Lib.hid hK
      clear hK ho hy
      go_wp2_with fail
      have hM := HK2.out
      refine wp_onlyN ?_
      refine wp_region_held_drew (S := AcS g s v3 (docR R) #[.int .i64 what, .int .i64 who, .int .i64 n, .int .i64 at_, .slice a2 k c2]) (by kernel_rfl) ⟨hB4.drew, hM.ax.drew⟩ (fun hHeld => ?_)
      replace hr3 : RowAt wr.drew.heap.size wr.drew v3 (docL many.toNat F').length (frV (docL many.toNat F')) := hr3.below (Below.refl _ wr).drew (Nat.le_refl _)
      replace hM := hM.step (Below.refl _ wr).drew
      replace hB4 := hB4.drew
      change wpAnyH _ _ _ _ _ _ _ _ wr.drew
      generalize wr.drew = w5 at hM hHeld hB4 hr3 ⊢
      refine wpAnyH_take (i := 0) (v := ?_) rfl (by kernel_rfl) (by kernel_rfl) (by kernel_rfl) (fun _ _ _ h => h) (Or.inl ⟨by rfl, ?_⟩) (by assumption) ?_
      rotate_left
      · (intro Y hSw; (try dsimp only at hSw); obtain ⟨hS0, hS1⟩ := hSw; go_simp; try with_reducible rfl)
      try simp only [Act.put, List.getElem_toArray, List.getElem_cons_zero, List.getElem_cons_succ, List.setIfInBounds_toArray, List.set_cons_zero, List.set_cons_succ]
      refine wpAnyH_take (i := 1) (v := .agg (poolV v3 (docR R))) rfl (by kernel_rfl) (by kernel_rfl) (by kernel_rfl) (fun _ _ _ h => h) (Or.inl ⟨by rfl, fun Y hSw => exec_loadB ty65 _ rfl g rfl hSw.b (poolV_size _ HV3.out)⟩) (by assumption) ?_
      try simp only [Act.put, List.getElem_toArray, List.getElem_cons_zero, List.getElem_cons_succ, List.setIfInBounds_toArray, List.set_cons_zero, List.set_cons_succ]
      refine wpAnyH_take (i := 2) (v := ?_) rfl (by kernel_rfl) (by kernel_rfl) (by kernel_rfl) (fun _ _ _ h => h) (Or.inl ⟨by rfl, ?_⟩) (by assumption) ?_
      rotate_left
      · (intro Y hSw; (try dsimp only at hSw); obtain ⟨hS0, hS1⟩ := hSw; go_simp; try with_reducible rfl)
      try simp only [Act.put, List.getElem_toArray, List.getElem_cons_zero, List.getElem_cons_succ, List.setIfInBounds_toArray, List.set_cons_zero, List.set_cons_succ]
      refine wpAnyH_take (i := 4) (v := ?_) rfl (by kernel_rfl) (by kernel_rfl) (by kernel_rfl) (fun _ _ _ h => h) (Or.inl ⟨by rfl, ?_⟩) (by assumption) ?_
      rotate_left
      · (intro Y hSw; (try dsimp only at hSw); obtain ⟨hS0, hS1⟩ := hSw; go_simp; try with_reducible rfl)
      try simp only [Act.put, List.getElem_toArray, List.getElem_cons_zero, List.getElem_cons_succ, List.setIfInBounds_toArray, List.set_cons_zero, List.set_cons_succ]
      refine wpAnyH_ready (rs := [3]) (by kernel_rfl) (by simp) ?_
      refine AllReadyH.cons rfl (fun K hK => ?_) AllReadyH.nil
      go_simp
      refine (num_calls _ _).mono ?_; rintro e _ ⟨rfl, rfl⟩
      go_simp
      refine hK.out _ _ (⟨hB4, hM.ax⟩) (fun hHeld => ?_)
      clear hK K
      try simp only [Act.put, List.getElem_toArray, List.getElem_cons_zero, List.getElem_cons_succ, List.setIfInBounds_toArray, List.set_cons_zero, List.set_cons_succ]
      refine wpAnyH_take (i := 5) (v := .bool true) rfl (by kernel_rfl) (by kernel_rfl) (by kernel_rfl) (fun _ _ _ h => h) (Or.inl ⟨by rfl, by intro Y hSw; go_simp⟩) (by assumption) ?_
      try simp only [Act.put, List.getElem_toArray, List.getElem_cons_zero, List.getElem_cons_succ, List.setIfInBounds_toArray, List.set_cons_zero, List.set_cons_succ]
      refine wpAnyH_take (i := 6) (v := ?_) rfl (by kernel_rfl) (by kernel_rfl) (by kernel_rfl) (fun _ _ _ h => h) (Or.inl ⟨by rfl, ?_⟩) (by assumption) ?_
      rotate_left
      · (intro Y hSw; (try dsimp only at hSw); obtain ⟨hS0, hS1⟩ := hSw; go_simp; try with_reducible rfl)
      try simp only [Act.put, List.getElem_toArray, List.getElem_cons_zero, List.getElem_cons_succ, List.setIfInBounds_toArray, List.set_cons_zero, List.set_cons_succ]
      refine wpAnyH_ready (rs := [7]) (by kernel_rfl) (by simp) ?_
      refine AllReadyH.cons rfl (fun K hK => ?_) AllReadyH.nil
      rw [if_pos (by rfl)]
      refine wp_storeB ty65 _ _ rfl (s + 1 + 1) (poolV v3 (docR R)) rfl rfl hM.r (poolV_size _ rfl) (poolV_size _ HV3.out) (poolV_one HO3.out _) ?_
      obtain ⟨w9, hw9⟩ : ∃ w9, Hid (w5.setCells (s + 1 + 1) 0 (poolV v3 (docR R)).toList = w9) := ⟨_, Lib.hid rfl⟩
      have hB9 := hB4.setCellsO (poolV v3 (docR R)).toList 0 (show _ ≠ s + 1 + 1 by omega)
      have hX9 := hM.ax.setCellsO (poolV v3 (docR R)).toList 0 (show s + 1 ≠ s + 1 + 1 by omega)
      obtain ⟨hO9, hP9, hC9⟩ := hM.fin HG2.out (Nat.le_refl _) hr3 HV3.out hw9
      rw [hw9.out] at hB9 hX9 ⊢
      clear hw9 hM hB4 hr3
      refine hK.out _ _ (⟨hB9, hX9⟩) (fun hHeld => ?_)
      clear hK K
      try simp only [Act.put, List.getElem_toArray, List.getElem_cons_zero, List.getElem_cons_succ, List.setIfInBounds_toArray, List.set_cons_zero, List.set_cons_succ]
      refine wpAnyH_take (i := 8) (v := ?_) rfl (by kernel_rfl) (by kernel_rfl) (by kernel_rfl) (fun _ _ _ h => h) (Or.inl ⟨by rfl, ?_⟩) (by assumption) ?_
      rotate_left
      · (intro Y hSw; (try dsimp only at hSw); obtain ⟨hS0, hS1⟩ := hSw; go_simp; try with_reducible rfl)
      try simp only [Act.put, List.getElem_toArray, List.getElem_cons_zero, List.getElem_cons_succ, List.setIfInBounds_toArray, List.set_cons_zero, List.set_cons_succ]
      refine wpAnyH_done (by kernel_rfl) ?_ _
      rw [onlyN_normal]
      clear hHeld hB9 hX9
      go_wp2_with fail
      refine ret_pa rfl (s + 1 + 1) rfl hO9 (poolV_size _ HV3.out) rfl ?_
      exact ⟨b, bf, br, F', R, v3, rfl, hP9, hC9, .inl ⟨rfl, rfl, rfl⟩, fun h => by rw [← HF'.out]; exact h.write many n at_ HBW.out⟩
end Go.Proofs.Ytfmkjckckekliaa
