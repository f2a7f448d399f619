/-
  Package pinfoldlaw15: MetaGreatly. No condition.
-/
import Derived.Test.YtlpchcdalfkfcaaGreatBMeAa
import Derived.Test.YtlpchcdalfkfcaaGreatBMeQ
namespace Go.Proofs.YtlpchcdalfkfcaaGreat
open Go.RowKit Go.ChangeShapes
attribute [local go_sem] Oper.semAt_some
set_option maxHeartbeats 8000000
set_option maxRecDepth 8000

theorem grtV_no {L : List Int} (h : grtOk L = false) : grtV L = .agg #[.int .i64 0, .int .i64 0, .int .i64 0, .int .i64 0] ∧ grtN L = 251 := by
  unfold grtV grtN
  rw [if_neg (by rw [h]; decide), if_neg (by rw [h]; decide)]
  exact ⟨rfl, rfl⟩
theorem grtOk_iff (b0 b1 b2 b3 b4 b5 b6 b7 b8 b9 b10 b11 b12 b13 b14 b15 : Int) (h0 : 0 ≤ b0) (hb2 : 0 ≤ b2 + 256 * b3 ∧ b2 + 256 * b3 ≤ 65535) (hz : 0 ≤ b4 + 256 * (b5 + 256 * (b6 + 256 * b7))) (hf : 0 ≤ b8 + 256 * (b9 + 256 * (b10 + 256 * b11))) (ht : 0 ≤ b12 ∧ 0 ≤ b13 ∧ 0 ≤ b14 ∧ 0 ≤ b15) :
    grtOk [b0, b1, b2, b3, b4, b5, b6, b7, b8, b9, b10, b11, b12, b13, b14, b15] = true ↔ b1 = 0 ∧ (b12 = 0 ∧ b13 = 0 ∧ b14 = 0 ∧ b15 = 0) ∧ b0 ≤ 4 ∧ b4 + 256 * (b5 + 256 * (b6 + 256 * b7)) ≤ 262144 ∧ b8 + 256 * (b9 + 256 * (b10 + 256 * b11)) ≤ 65535 := by
  unfold grtOk rgtG
  rw [Bool.and_eq_true, Bool.and_eq_true, Bool.and_eq_true, Bool.and_eq_true, Bool.and_eq_true, isSt_iff, inB_iff, inB_iff, inB_iff, decide_eq_true_iff, decide_eq_true_iff]
  simp only [grtJ, w4, List.getD_cons_zero, List.getD_cons_succ]
  simp only [show (1 : Nat) ≤ 6 from by decide, show (3 : Nat) ≤ 6 from by decide, show (4 : Nat) ≤ 6 from by decide, show (5 : Nat) ≤ 6 from by decide, if_true]
  omega
theorem grtV_yes {b0 b1 b2 b3 b4 b5 b6 b7 b8 b9 b10 b11 b12 b13 b14 b15 : Int} (h : grtOk [b0, b1, b2, b3, b4, b5, b6, b7, b8, b9, b10, b11, b12, b13, b14, b15] = true) : grtV [b0, b1, b2, b3, b4, b5, b6, b7, b8, b9, b10, b11, b12, b13, b14, b15] = .agg #[.int .i64 b0, .int .i64 (b2 + 256 * b3), .int .i64 (b4 + 256 * (b5 + 256 * (b6 + 256 * b7))), .int .i64 (b8 + 256 * (b9 + 256 * (b10 + 256 * b11)))] ∧ grtN [b0, b1, b2, b3, b4, b5, b6, b7, b8, b9, b10, b11, b12, b13, b14, b15] = 0 := by
  unfold grtV grtN
  rw [if_pos h, if_pos h]
  exact ⟨rfl, rfl⟩
/-- Numbers that are read from the highest byte on. -/
def upI (a b c d : Int) (m : Nat) : Int := match m with | 0 => 0 | 1 => d | 2 => 256 * d + c | 3 => 256 * (256 * d + c) + b | _ => 256 * (256 * (256 * d + c) + b) + a
def dnI (m : Nat) : Int := match m with | 0 => 3 | 1 => 2 | 2 => 1 | 3 => 0 | _ => -1
theorem agg4_inj {x y z u x' y' z' u' : Int} (h : Value.agg #[.int .i64 x, .int .i64 y, .int .i64 z, .int .i64 u] = .agg #[.int .i64 x', .int .i64 y', .int .i64 z', .int .i64 u']) : x = x' ∧ y = y' ∧ z = z' ∧ u = u' := by simpa using h
structure CelS (p q : Addr) (u v : Value) (Y : World) : Prop where
  h0 : Y.cell? p = some u
  h1 : Y.cell? q = some v
theorem greatly_bodyM (i b0 b1 b2 b3 b4 b5 b6 b7 b8 b9 b10 b11 b12 b13 b14 b15 : Int) (hb : ∀ x ∈ [b0, b1, b2, b3, b4, b5, b6, b7, b8, b9, b10, b11, b12, b13, b14, b15], 0 ≤ x ∧ x < 256) (w : World) :
    Calls Tryz.prog 5 #[.int .i64 i, .agg #[.int .u8 b0, .int .u8 b1, .int .u8 b2, .int .u8 b3, .int .u8 b4, .int .u8 b5, .int .u8 b6, .int .u8 b7, .int .u8 b8, .int .u8 b9, .int .u8 b10, .int .u8 b11, .int .u8 b12, .int .u8 b13, .int .u8 b14, .int .u8 b15]] w fun e w' => e = .returned (.bool true) ∧ Below w.heap.size w w' := by
  obtain ⟨w0, hw0⟩ : ∃ w0, w.alloc (.cells #[.int .u8 b0, .int .u8 b1, .int .u8 b2, .int .u8 b3, .int .u8 b4, .int .u8 b5, .int .u8 b6, .int .u8 b7, .int .u8 b8, .int .u8 b9, .int .u8 b10, .int .u8 b11, .int .u8 b12, .int .u8 b13, .int .u8 b14, .int .u8 b15] 52) = w0 := ⟨_, rfl⟩
  have hA : Blk w0 w.heap.size #[.int .u8 b0, .int .u8 b1, .int .u8 b2, .int .u8 b3, .int .u8 b4, .int .u8 b5, .int .u8 b6, .int .u8 b7, .int .u8 b8, .int .u8 b9, .int .u8 b10, .int .u8 b11, .int .u8 b12, .int .u8 b13, .int .u8 b14, .int .u8 b15] 52 := by rw [← hw0]; exact Blk.new w _ _
  have k0 : Below w.heap.size w w0 := by rw [← hw0]; exact (Below.refl _ w).alloc (Nat.le_refl _) _
  obtain ⟨ba, hba⟩ : ∃ b, w.heap.size = b := ⟨_, rfl⟩
  go_enter Tryz.func5, Tryz.ntmps5
  go_wp2_with fail
  clear hw0
  rw [hba] at hA
  try simp only [hba]
  have H0 := Lib.hid hA
  clear hA
  refine (memory_okM _).mono ?_; rintro e W ⟨k, rfl, L⟩
  by_cases hi0 : i < 0
  · have c1 : decide (i < 0) = true := by simpa using hi0
    go_wp2_with fail
    refine (works_okM _).mono ?_; rintro e Z9 ⟨rfl, j9⟩
    go_wp2_with fail
    go_ret
    exact ⟨rfl, (k0.trans (L.bel.mono k0.size)).trans (j9.mono (k0.trans (L.bel.mono k0.size)).size)⟩
  by_cases hi1 : 384 ≤ i
  · have c1 : decide (i < 0) = false := by simpa using hi0
    have c2 : decide (384 ≤ i) = true := by simpa using hi1
    go_wp2_with fail
    refine (works_okM _).mono ?_; rintro e Z9 ⟨rfl, j9⟩
    go_wp2_with fail
    go_ret
    exact ⟨rfl, (k0.trans (L.bel.mono k0.size)).trans (j9.mono (k0.trans (L.bel.mono k0.size)).size)⟩
  have hi : 0 ≤ i ∧ i ≤ 383 := by omega
  have c1 : decide (i < 0) = false := by simpa using hi0
  have c2 : decide (384 ≤ i) = false := by simpa using hi1
  obtain ⟨e0, sp, _⟩ := opn_ok L.gd (t := 2) (by decide) (n := 63) (by decide) (fun q _ _ => memS_has q) (by rw [memS_left]; decide)
  have bk := BkP.of (t := 2) (by decide) sp
  go_wp2_with fail
  clear c1 c2 hi0 hi1
  refine (mOpen_ok L 2 63).mono ?_; rintro e W3 ⟨rfl, L3, _⟩
  rw [e0]
  obtain ⟨sO, hsO⟩ : ∃ x, opnF memS 2 63 = x := ⟨_, rfl⟩
  rw [hsO] at L3 bk
  clear sp hsO L e0
  go_wp2_with fail
  refine (num_callsM _ _).mono ?_; rintro e _ ⟨rfl, rfl⟩
  go_wp2_with fail
  obtain ⟨Y2, hY⟩ : ∃ Y2, W3.drew = Y2 := ⟨_, rfl⟩
  have j : Below W3.heap.size W3 Y2 := by rw [← hY]; exact (Below.refl _ W3).drew
  have L := L3.step j
  clear j L3
  refine wp_onlyN ?_
  refine wp_region_held_drew (S := fun _ => True) (by kernel_rfl) trivial (fun hHeld => ?_)
  rw [hY]
  clear hY
  obtain ⟨p0, p1⟩ := grA_bd (t := 2) hi
  have hi0 := hi.1
  have hi1 := hi.2
  refine wpAnyH_take (i := 0) (v := ?_) rfl (by kernel_rfl) (by kernel_rfl) (by kernel_rfl) (fun _ _ _ h => h) (Or.inl ⟨by rfl, ?_⟩) (by assumption) ?_
  rotate_left
  · (intro Y hSw; (try dsimp only at hSw); obtain hS0 := hSw; go_simp; try with_reducible rfl)
  try simp only [Act.put, List.getElem_toArray, List.getElem_cons_zero, List.getElem_cons_succ, List.setIfInBounds_toArray, List.set_cons_zero, List.set_cons_succ]
  refine wpAnyH_take (i := 4) (v := ?_) rfl (by kernel_rfl) (by kernel_rfl) (by kernel_rfl) (fun _ _ _ h => h) (Or.inl ⟨by rfl, ?_⟩) (by assumption) ?_
  rotate_left
  · (intro Y hSw; (try dsimp only at hSw); obtain hS0 := hSw; go_simp; try with_reducible rfl)
  try simp only [Act.put, List.getElem_toArray, List.getElem_cons_zero, List.getElem_cons_succ, List.setIfInBounds_toArray, List.set_cons_zero, List.set_cons_succ]
  refine wpAnyH_take (i := 5) (v := ?_) rfl (by kernel_rfl) (by kernel_rfl) (by kernel_rfl) (fun _ _ _ h => h) (Or.inl ⟨by rfl, ?_⟩) (by assumption) ?_
  rotate_left
  · (intro Y hSw; (try dsimp only at hSw); obtain hS0 := hSw; go_simp; try with_reducible rfl)
  try simp only [Act.put, List.getElem_toArray, List.getElem_cons_zero, List.getElem_cons_succ, List.setIfInBounds_toArray, List.set_cons_zero, List.set_cons_succ]
  refine wpAnyH_take (i := 8) (v := ?_) rfl (by kernel_rfl) (by kernel_rfl) (by kernel_rfl) (fun _ _ _ h => h) (Or.inl ⟨by rfl, ?_⟩) (by assumption) ?_
  rotate_left
  · (intro Y hSw; (try dsimp only at hSw); obtain hS0 := hSw; go_simp; try with_reducible rfl)
  try simp only [Act.put, List.getElem_toArray, List.getElem_cons_zero, List.getElem_cons_succ, List.setIfInBounds_toArray, List.set_cons_zero, List.set_cons_succ]
  refine wpAnyH_ready (rs := [1]) (by kernel_rfl) (by simp) ?_
  refine AllReadyH.cons rfl (fun K hK => ?_) AllReadyH.nil
  go_simp
  refine (rBook_calls 2 (by decide) _).mono ?_; rintro e _ ⟨rfl, rfl⟩
  go_wp2_with fail
  refine hK.out _ _ (trivial) (fun hHeld => ?_)
  clear hK K
  try simp only [Act.put, List.getElem_toArray, List.getElem_cons_zero, List.getElem_cons_succ, List.setIfInBounds_toArray, List.set_cons_zero, List.set_cons_succ]
  refine wpAnyH_take (i := 2) (v := ?_) rfl (by kernel_rfl) (by kernel_rfl) (by kernel_rfl) (fun _ _ _ h => h) (Or.inl ⟨by rfl, ?_⟩) (by assumption) ?_
  rotate_left
  · (intro Y hSw; (try dsimp only at hSw); obtain hS0 := hSw; go_simp; try with_reducible rfl)
  try simp only [Act.put, List.getElem_toArray, List.getElem_cons_zero, List.getElem_cons_succ, List.setIfInBounds_toArray, List.set_cons_zero, List.set_cons_succ]
  refine wpAnyH_take (i := 3) (v := ?_) rfl (by kernel_rfl) (by kernel_rfl) (by kernel_rfl) (fun _ _ _ h => h) (Or.inl ⟨by rfl, ?_⟩) (by assumption) ?_
  rotate_left
  · (intro Y hSw; (try dsimp only at hSw); obtain hS0 := hSw; go_simp; try with_reducible rfl)
  try simp only [Act.put, List.getElem_toArray, List.getElem_cons_zero, List.getElem_cons_succ, List.setIfInBounds_toArray, List.set_cons_zero, List.set_cons_succ]
  refine wpAnyH_take (i := 6) (v := ?_) rfl (by kernel_rfl) (by kernel_rfl) (by kernel_rfl) (fun _ _ _ h => h) (Or.inl ⟨by rfl, ?_⟩) (by assumption) ?_
  rotate_left
  · (intro Y hSw; (try dsimp only at hSw); obtain hS0 := hSw; go_simp; try with_reducible rfl)
  try simp only [Act.put, List.getElem_toArray, List.getElem_cons_zero, List.getElem_cons_succ, List.setIfInBounds_toArray, List.set_cons_zero, List.set_cons_succ]
  refine wpAnyH_take (i := 7) (v := ?_) rfl (by kernel_rfl) (by kernel_rfl) (by kernel_rfl) (fun _ _ _ h => h) (Or.inl ⟨by rfl, ?_⟩) (by assumption) ?_
  rotate_left
  · (intro Y hSw; (try dsimp only at hSw); obtain hS0 := hSw; go_simp; try with_reducible rfl)
  try simp only [Act.put, List.getElem_toArray, List.getElem_cons_zero, List.getElem_cons_succ, List.setIfInBounds_toArray, List.set_cons_zero, List.set_cons_succ]
  refine wpAnyH_ready (rs := [9]) (by kernel_rfl) (by simp) ?_
  refine AllReadyH.cons rfl (fun K hK => ?_) AllReadyH.nil
  go_simp
  have hA := H0.out.below L.bel H0.out.lt
  have hv : RowAt Y2.heap.size Y2 (.slice (some ⟨ba, 0, none⟩) 16 16) ([b0, b1, b2, b3, b4, b5, b6, b7, b8, b9, b10, b11, b12, b13, b14, b15] : List Int).length (intVals .u8 [b0, b1, b2, b3, b4, b5, b6, b7, b8, b9, b10, b11, b12, b13, b14, b15]) := RowAt.of_blk (B := Y2.heap.size) hA hA.lt rfl
  have e8 : grA 2 i = 256 * (64 * 2 + 1) + (6144 + 16 * i) := rfl
  rw [show IntKind.i64.wrap 153 = 153 from IntWalk.i64_in _ (by decide), show IntKind.i64.wrap (256 * 153) = 39168 from IntWalk.i64_in _ (by decide), show IntKind.i64.wrap (16 * i) = 16 * i from IntWalk.i64_in _ (by omega), show IntKind.i64.wrap (39168 + 16 * i) = grA 2 i from by rw [IntWalk.i64_in _ (by omega), e8]; omega, show IntKind.u32.wrap (grA 2 i) = grA 2 i from IntWalk.u32_in _ (by omega)]
  refine (L.poke (grA 2 i) (by omega) (by omega) [b0, b1, b2, b3, b4, b5, b6, b7, b8, b9, b10, b11, b12, b13, b14, b15] (Nat.le_refl _) hv).mono ?_; rintro e W4 ⟨rfl, L4, _⟩
  have hr0 : rchE sO.D (-2) (grA 2 i) (([b0, b1, b2, b3, b4, b5, b6, b7, b8, b9, b10, b11, b12, b13, b14, b15] : List Int).length : Nat) 2 = 0 := bk.reach (by omega) (by simp; omega) (by simp)
  obtain ⟨_, wsp⟩ := bk.wr (a := grA 2 i) (bs := [b0, b1, b2, b3, b4, b5, b6, b7, b8, b9, b10, b11, b12, b13, b14, b15]) L.gd (by omega) (by simp; omega) (by simp)
  have hrd := bk.wrrd (a := grA 2 i) (bs := [b0, b1, b2, b3, b4, b5, b6, b7, b8, b9, b10, b11, b12, b13, b14, b15]) L.gd (by omega) (by simp; omega) (by simp)
  have bk4 := bk.d wsp.d.1
  rw [hr0]
  obtain ⟨s4, hs4'⟩ : ∃ x, wrS sO (-2) (grA 2 i) [b0, b1, b2, b3, b4, b5, b6, b7, b8, b9, b10, b11, b12, b13, b14, b15] = x := ⟨_, rfl⟩
  rw [hs4'] at L4 hrd bk4
  clear hr0 wsp hs4' hv L e8 hA
  go_wp2_with fail
  refine hK.out _ _ (trivial) (fun hHeld => ?_)
  clear hK K
  try simp only [Act.put, List.getElem_toArray, List.getElem_cons_zero, List.getElem_cons_succ, List.setIfInBounds_toArray, List.set_cons_zero, List.set_cons_succ]
  refine wpAnyH_take (i := 10) (v := ?_) rfl (by kernel_rfl) (by kernel_rfl) (by kernel_rfl) (fun _ _ _ h => h) (Or.inl ⟨by rfl, ?_⟩) (by assumption) ?_
  rotate_left
  · (intro Y hSw; (try dsimp only at hSw); obtain hS0 := hSw; go_simp; try with_reducible rfl)
  try simp only [Act.put, List.getElem_toArray, List.getElem_cons_zero, List.getElem_cons_succ, List.setIfInBounds_toArray, List.set_cons_zero, List.set_cons_succ]
  refine wpAnyH_done (by kernel_rfl) ?_ _
  rw [onlyN_normal]
  clear hHeld
  go_wp2_with fail
  refine (num_callsM _ _).mono ?_; rintro e _ ⟨rfl, rfl⟩
  go_wp2_with fail
  refine (mGetG_yes L4 hi bk4 [b0, b1, b2, b3, b4, b5, b6, b7, b8, b9, b10, b11, b12, b13, b14, b15] hrd rfl hb).mono ?_; rintro e W5 ⟨rfl, j⟩
  replace L4 := L4.step j
  have kk : Below w.heap.size w W5 := k0.trans (L4.bel.mono k0.size)
  have hA := H0.out.below L4.bel H0.out.lt
  have hwz := k0.size
  clear j bk bk4 hrd p0 p1 L4
  have HOK := Lib.hid (grtOk_iff b0 b1 b2 b3 b4 b5 b6 b7 b8 b9 b10 b11 b12 b13 b14 b15 (hb b0 (by simp)).1 (by have := hb b2 (by simp); have := hb b3 (by simp); omega) (by have := hb b4 (by simp); have := hb b5 (by simp); have := hb b6 (by simp); have := hb b7 (by simp); omega) (by have := hb b8 (by simp); have := hb b9 (by simp); have := hb b10 (by simp); have := hb b11 (by simp); omega) ⟨(hb b12 (by simp)).1, (hb b13 (by simp)).1, (hb b14 (by simp)).1, (hb b15 (by simp)).1⟩)
  obtain ⟨x, y, z, u, hv⟩ := grtV_shape [b0, b1, b2, b3, b4, b5, b6, b7, b8, b9, b10, b11, b12, b13, b14, b15]
  obtain ⟨n, hn⟩ : ∃ n, grtN [b0, b1, b2, b3, b4, b5, b6, b7, b8, b9, b10, b11, b12, b13, b14, b15] = n := ⟨_, rfl⟩
  rw [hv, hn]
  have HV := Lib.hid (And.intro hv hn)
  clear hv hn
  go_wp2_with fail
  obtain ⟨W6, hW6⟩ : ∃ W6, (W5.alloc (.cells #[.int .i64 x, .int .i64 y, .int .i64 z, .int .i64 u] 54)).alloc (.cells #[.int .u64 0, .int .u64 0] 58) = W6 := ⟨_, rfl⟩
  obtain ⟨bg, hbg⟩ : ∃ b, W5.heap.size = b := ⟨_, rfl⟩
  have hG : Blk W6 bg #[.int .i64 x, .int .i64 y, .int .i64 z, .int .i64 u] 54 := by rw [← hW6, ← hbg]; exact (Blk.new W5 _ _).alloc _
  have hN : Blk W6 (bg + 1) #[.int .u64 0, .int .u64 0] 58 := by rw [← hW6, ← hbg]; exact Blk.newAt _ _ _ (by simp)
  have hA6 : Blk W6 ba #[.int .u8 b0, .int .u8 b1, .int .u8 b2, .int .u8 b3, .int .u8 b4, .int .u8 b5, .int .u8 b6, .int .u8 b7, .int .u8 b8, .int .u8 b9, .int .u8 b10, .int .u8 b11, .int .u8 b12, .int .u8 b13, .int .u8 b14, .int .u8 b15] 52 := by rw [← hW6]; exact (hA.alloc _).alloc _
  have K6 : Below w.heap.size w W6 := by rw [← hW6]; exact (kk.alloc kk.size _).alloc (by have := kk.size; simp; omega) _
  have hbn : w.heap.size ≤ bg + 1 := by have := kk.size; omega
  have hne1 : ba ≠ bg + 1 := by have := kk.size; have := hA.lt; omega
  have hne2 : bg ≠ bg + 1 := by omega
  rw [hW6]
  try simp only [hbg]
  clear hW6 hA kk hwz
  have hA := hA6
  have kk := K6
  clear hA6 K6
  have hb4 := hb b4 (by simp)
  have hb5 := hb b5 (by simp)
  have hb6 := hb b6 (by simp)
  have hb7 := hb b7 (by simp)
  have hb8 := hb b8 (by simp)
  have hb9 := hb b9 (by simp)
  have hb10 := hb b10 (by simp)
  have hb11 := hb b11 (by simp)
  have HB := Lib.hid hb
  clear hb
  obtain ⟨bn, hbn'⟩ : ∃ b, bg + 1 = b := ⟨_, rfl⟩
  rw [hbn'] at hN hbn hne1 hne2
  try simp only [hbn']
  clear hbn' hbg
  go_loopw [12] (fun i wr => ∃ m : Nat, m ≤ 4 ∧ i = .int .i64 (dnI m) ∧ Blk wr bn #[.int .u64 (upI b4 b5 b6 b7 m), .int .u64 (upI b8 b9 b10 b11 m)] 58 ∧ Blk wr bg #[.int .i64 x, .int .i64 y, .int .i64 z, .int .i64 u] 54 ∧ Blk wr ba #[.int .u8 b0, .int .u8 b1, .int .u8 b2, .int .u8 b3, .int .u8 b4, .int .u8 b5, .int .u8 b6, .int .u8 b7, .int .u8 b8, .int .u8 b9, .int .u8 b10, .int .u8 b11, .int .u8 b12, .int .u8 b13, .int .u8 b14, .int .u8 b15] 52 ∧ Below w.heap.size w wr) (fun i _ => (intOf i + 1).toNat)
  case atStart => exact ⟨0, by omega, rfl, hN, hG, hA, kk⟩
  case round =>
    clear hN hG hA kk
    obtain ⟨m, hm, rfl, hN, hG, hA, kk⟩ := hrel
    by_cases hlt : m < 4
    · rcases (show m = 0 ∨ m = 1 ∨ m = 2 ∨ m = 3 by omega) with rfl | rfl | rfl | rfl
      · rw [show dnI 0 = 3 from rfl]
        replace hN : Blk wr bn #[.int .u64 (0), .int .u64 (0)] 58 := hN
        go_wp2_with fail
        have wz : IntKind.i64.wrap 7 = 7 := IntWalk.i64_in _ (by decide)
        have c0 := hN.cell 0 (v := .int .u64 (0)) rfl
        have c1 := hA.cell 7 (v := .int .u8 b7) rfl
        have f0 := hN.frozen 0
        go_still_tail 10, (by kernel_rfl)
        go_wp2_with fail
        try rw [Int.zero_add]
        obtain ⟨Z, hZ⟩ : ∃ Z, (wr.setCell ⟨bn, 0, none⟩ (.int .u64 (b7))).drew = Z := ⟨_, rfl⟩
        have hN2 : Blk Z bn #[.int .u64 (b7), .int .u64 (0)] 58 := by rw [← hZ]; exact (hN.set 0 _).drew
        replace hA : Blk Z ba #[.int .u8 b0, .int .u8 b1, .int .u8 b2, .int .u8 b3, .int .u8 b4, .int .u8 b5, .int .u8 b6, .int .u8 b7, .int .u8 b8, .int .u8 b9, .int .u8 b10, .int .u8 b11, .int .u8 b12, .int .u8 b13, .int .u8 b14, .int .u8 b15] 52 := by rw [← hZ]; exact (hA.setOther _ _ hne1).drew
        replace hG : Blk Z bg #[.int .i64 x, .int .i64 y, .int .i64 z, .int .i64 u] 54 := by rw [← hZ]; exact (hG.setOther _ _ hne2).drew
        replace kk : Below w.heap.size w Z := by rw [← hZ]; exact (kk.setCell hbn _).drew
        rw [hZ]
        clear hZ f0 c0 c1 wz
        have hN := hN2
        clear hN2
        obtain ⟨Y, rfl⟩ : ∃ Y : World, Y = Z := ⟨_, rfl⟩
        have wz : IntKind.i64.wrap 11 = 11 := IntWalk.i64_in _ (by decide)
        have c0 := hN.cell 1 (v := .int .u64 (0)) rfl
        have c1 := hA.cell 11 (v := .int .u8 b11) rfl
        have f0 := hN.frozen 1
        go_still_tail 10, (by kernel_rfl)
        go_wp2_with fail
        try rw [Int.zero_add]
        obtain ⟨Z, hZ⟩ : ∃ Z, (Y.setCell ⟨bn, 1, none⟩ (.int .u64 (b11))).drew = Z := ⟨_, rfl⟩
        have hN2 : Blk Z bn #[.int .u64 (b7), .int .u64 (b11)] 58 := by rw [← hZ]; exact (hN.set 1 _).drew
        replace hA : Blk Z ba #[.int .u8 b0, .int .u8 b1, .int .u8 b2, .int .u8 b3, .int .u8 b4, .int .u8 b5, .int .u8 b6, .int .u8 b7, .int .u8 b8, .int .u8 b9, .int .u8 b10, .int .u8 b11, .int .u8 b12, .int .u8 b13, .int .u8 b14, .int .u8 b15] 52 := by rw [← hZ]; exact (hA.setOther _ _ hne1).drew
        replace hG : Blk Z bg #[.int .i64 x, .int .i64 y, .int .i64 z, .int .i64 u] 54 := by rw [← hZ]; exact (hG.setOther _ _ hne2).drew
        replace kk : Below w.heap.size w Z := by rw [← hZ]; exact (kk.setCell hbn _).drew
        rw [hZ]
        clear hZ f0 c0 c1 wz
        have hN := hN2
        clear hN2
        obtain ⟨Y, rfl⟩ : ∃ Y : World, Y = Z := ⟨_, rfl⟩
        exact ⟨⟨0 + 1, by omega, rfl, hN, hG, hA, kk⟩, by simp [intOf]⟩
      · rw [show dnI 1 = 2 from rfl]
        replace hN : Blk wr bn #[.int .u64 (b7), .int .u64 (b11)] 58 := hN
        go_wp2_with fail
        have wz : IntKind.i64.wrap 6 = 6 := IntWalk.i64_in _ (by decide)
        have c0 := hN.cell 0 (v := .int .u64 (b7)) rfl
        have c1 := hA.cell 6 (v := .int .u8 b6) rfl
        have f0 := hN.frozen 0
        go_still_tail 10, (by kernel_rfl)
        go_wp2_with fail
        try rw [Int.zero_add]
        obtain ⟨Z, hZ⟩ : ∃ Z, (wr.setCell ⟨bn, 0, none⟩ (.int .u64 (256 * b7 + b6))).drew = Z := ⟨_, rfl⟩
        have hN2 : Blk Z bn #[.int .u64 (256 * b7 + b6), .int .u64 (b11)] 58 := by rw [← hZ]; exact (hN.set 0 _).drew
        replace hA : Blk Z ba #[.int .u8 b0, .int .u8 b1, .int .u8 b2, .int .u8 b3, .int .u8 b4, .int .u8 b5, .int .u8 b6, .int .u8 b7, .int .u8 b8, .int .u8 b9, .int .u8 b10, .int .u8 b11, .int .u8 b12, .int .u8 b13, .int .u8 b14, .int .u8 b15] 52 := by rw [← hZ]; exact (hA.setOther _ _ hne1).drew
        replace hG : Blk Z bg #[.int .i64 x, .int .i64 y, .int .i64 z, .int .i64 u] 54 := by rw [← hZ]; exact (hG.setOther _ _ hne2).drew
        replace kk : Below w.heap.size w Z := by rw [← hZ]; exact (kk.setCell hbn _).drew
        rw [hZ]
        clear hZ f0 c0 c1 wz
        have hN := hN2
        clear hN2
        obtain ⟨Y, rfl⟩ : ∃ Y : World, Y = Z := ⟨_, rfl⟩
        have wz : IntKind.i64.wrap 10 = 10 := IntWalk.i64_in _ (by decide)
        have c0 := hN.cell 1 (v := .int .u64 (b11)) rfl
        have c1 := hA.cell 10 (v := .int .u8 b10) rfl
        have f0 := hN.frozen 1
        go_still_tail 10, (by kernel_rfl)
        go_wp2_with fail
        try rw [Int.zero_add]
        obtain ⟨Z, hZ⟩ : ∃ Z, (Y.setCell ⟨bn, 1, none⟩ (.int .u64 (256 * b11 + b10))).drew = Z := ⟨_, rfl⟩
        have hN2 : Blk Z bn #[.int .u64 (256 * b7 + b6), .int .u64 (256 * b11 + b10)] 58 := by rw [← hZ]; exact (hN.set 1 _).drew
        replace hA : Blk Z ba #[.int .u8 b0, .int .u8 b1, .int .u8 b2, .int .u8 b3, .int .u8 b4, .int .u8 b5, .int .u8 b6, .int .u8 b7, .int .u8 b8, .int .u8 b9, .int .u8 b10, .int .u8 b11, .int .u8 b12, .int .u8 b13, .int .u8 b14, .int .u8 b15] 52 := by rw [← hZ]; exact (hA.setOther _ _ hne1).drew
        replace hG : Blk Z bg #[.int .i64 x, .int .i64 y, .int .i64 z, .int .i64 u] 54 := by rw [← hZ]; exact (hG.setOther _ _ hne2).drew
        replace kk : Below w.heap.size w Z := by rw [← hZ]; exact (kk.setCell hbn _).drew
        rw [hZ]
        clear hZ f0 c0 c1 wz
        have hN := hN2
        clear hN2
        obtain ⟨Y, rfl⟩ : ∃ Y : World, Y = Z := ⟨_, rfl⟩
        exact ⟨⟨1 + 1, by omega, rfl, hN, hG, hA, kk⟩, by simp [intOf]⟩
      · rw [show dnI 2 = 1 from rfl]
        replace hN : Blk wr bn #[.int .u64 (256 * b7 + b6), .int .u64 (256 * b11 + b10)] 58 := hN
        go_wp2_with fail
        have wz : IntKind.i64.wrap 5 = 5 := IntWalk.i64_in _ (by decide)
        have c0 := hN.cell 0 (v := .int .u64 (256 * b7 + b6)) rfl
        have c1 := hA.cell 5 (v := .int .u8 b5) rfl
        have f0 := hN.frozen 0
        go_still_tail 10, (by kernel_rfl)
        go_wp2_with fail
        try rw [Int.zero_add]
        obtain ⟨Z, hZ⟩ : ∃ Z, (wr.setCell ⟨bn, 0, none⟩ (.int .u64 (256 * (256 * b7 + b6) + b5))).drew = Z := ⟨_, rfl⟩
        have hN2 : Blk Z bn #[.int .u64 (256 * (256 * b7 + b6) + b5), .int .u64 (256 * b11 + b10)] 58 := by rw [← hZ]; exact (hN.set 0 _).drew
        replace hA : Blk Z ba #[.int .u8 b0, .int .u8 b1, .int .u8 b2, .int .u8 b3, .int .u8 b4, .int .u8 b5, .int .u8 b6, .int .u8 b7, .int .u8 b8, .int .u8 b9, .int .u8 b10, .int .u8 b11, .int .u8 b12, .int .u8 b13, .int .u8 b14, .int .u8 b15] 52 := by rw [← hZ]; exact (hA.setOther _ _ hne1).drew
        replace hG : Blk Z bg #[.int .i64 x, .int .i64 y, .int .i64 z, .int .i64 u] 54 := by rw [← hZ]; exact (hG.setOther _ _ hne2).drew
        replace kk : Below w.heap.size w Z := by rw [← hZ]; exact (kk.setCell hbn _).drew
        rw [hZ]
        clear hZ f0 c0 c1 wz
        have hN := hN2
        clear hN2
        obtain ⟨Y, rfl⟩ : ∃ Y : World, Y = Z := ⟨_, rfl⟩
        have wz : IntKind.i64.wrap 9 = 9 := IntWalk.i64_in _ (by decide)
        have c0 := hN.cell 1 (v := .int .u64 (256 * b11 + b10)) rfl
        have c1 := hA.cell 9 (v := .int .u8 b9) rfl
        have f0 := hN.frozen 1
        go_still_tail 10, (by kernel_rfl)
        go_wp2_with fail
        try rw [Int.zero_add]
        obtain ⟨Z, hZ⟩ : ∃ Z, (Y.setCell ⟨bn, 1, none⟩ (.int .u64 (256 * (256 * b11 + b10) + b9))).drew = Z := ⟨_, rfl⟩
        have hN2 : Blk Z bn #[.int .u64 (256 * (256 * b7 + b6) + b5), .int .u64 (256 * (256 * b11 + b10) + b9)] 58 := by rw [← hZ]; exact (hN.set 1 _).drew
        replace hA : Blk Z ba #[.int .u8 b0, .int .u8 b1, .int .u8 b2, .int .u8 b3, .int .u8 b4, .int .u8 b5, .int .u8 b6, .int .u8 b7, .int .u8 b8, .int .u8 b9, .int .u8 b10, .int .u8 b11, .int .u8 b12, .int .u8 b13, .int .u8 b14, .int .u8 b15] 52 := by rw [← hZ]; exact (hA.setOther _ _ hne1).drew
        replace hG : Blk Z bg #[.int .i64 x, .int .i64 y, .int .i64 z, .int .i64 u] 54 := by rw [← hZ]; exact (hG.setOther _ _ hne2).drew
        replace kk : Below w.heap.size w Z := by rw [← hZ]; exact (kk.setCell hbn _).drew
        rw [hZ]
        clear hZ f0 c0 c1 wz
        have hN := hN2
        clear hN2
        obtain ⟨Y, rfl⟩ : ∃ Y : World, Y = Z := ⟨_, rfl⟩
        exact ⟨⟨2 + 1, by omega, rfl, hN, hG, hA, kk⟩, by simp [intOf]⟩
      · rw [show dnI 3 = 0 from rfl]
        replace hN : Blk wr bn #[.int .u64 (256 * (256 * b7 + b6) + b5), .int .u64 (256 * (256 * b11 + b10) + b9)] 58 := hN
        go_wp2_with fail
        have wz : IntKind.i64.wrap 4 = 4 := IntWalk.i64_in _ (by decide)
        have c0 := hN.cell 0 (v := .int .u64 (256 * (256 * b7 + b6) + b5)) rfl
        have c1 := hA.cell 4 (v := .int .u8 b4) rfl
        have f0 := hN.frozen 0
        go_still_tail 10, (by kernel_rfl)
        go_wp2_with fail
        try rw [Int.zero_add]
        obtain ⟨Z, hZ⟩ : ∃ Z, (wr.setCell ⟨bn, 0, none⟩ (.int .u64 (256 * (256 * (256 * b7 + b6) + b5) + b4))).drew = Z := ⟨_, rfl⟩
        have hN2 : Blk Z bn #[.int .u64 (256 * (256 * (256 * b7 + b6) + b5) + b4), .int .u64 (256 * (256 * b11 + b10) + b9)] 58 := by rw [← hZ]; exact (hN.set 0 _).drew
        replace hA : Blk Z ba #[.int .u8 b0, .int .u8 b1, .int .u8 b2, .int .u8 b3, .int .u8 b4, .int .u8 b5, .int .u8 b6, .int .u8 b7, .int .u8 b8, .int .u8 b9, .int .u8 b10, .int .u8 b11, .int .u8 b12, .int .u8 b13, .int .u8 b14, .int .u8 b15] 52 := by rw [← hZ]; exact (hA.setOther _ _ hne1).drew
        replace hG : Blk Z bg #[.int .i64 x, .int .i64 y, .int .i64 z, .int .i64 u] 54 := by rw [← hZ]; exact (hG.setOther _ _ hne2).drew
        replace kk : Below w.heap.size w Z := by rw [← hZ]; exact (kk.setCell hbn _).drew
        rw [hZ]
        clear hZ f0 c0 c1 wz
        have hN := hN2
        clear hN2
        obtain ⟨Y, rfl⟩ : ∃ Y : World, Y = Z := ⟨_, rfl⟩
        have wz : IntKind.i64.wrap 8 = 8 := IntWalk.i64_in _ (by decide)
        have c0 := hN.cell 1 (v := .int .u64 (256 * (256 * b11 + b10) + b9)) rfl
        have c1 := hA.cell 8 (v := .int .u8 b8) rfl
        have f0 := hN.frozen 1
        go_still_tail 10, (by kernel_rfl)
        go_wp2_with fail
        try rw [Int.zero_add]
        obtain ⟨Z, hZ⟩ : ∃ Z, (Y.setCell ⟨bn, 1, none⟩ (.int .u64 (256 * (256 * (256 * b11 + b10) + b9) + b8))).drew = Z := ⟨_, rfl⟩
        have hN2 : Blk Z bn #[.int .u64 (256 * (256 * (256 * b7 + b6) + b5) + b4), .int .u64 (256 * (256 * (256 * b11 + b10) + b9) + b8)] 58 := by rw [← hZ]; exact (hN.set 1 _).drew
        replace hA : Blk Z ba #[.int .u8 b0, .int .u8 b1, .int .u8 b2, .int .u8 b3, .int .u8 b4, .int .u8 b5, .int .u8 b6, .int .u8 b7, .int .u8 b8, .int .u8 b9, .int .u8 b10, .int .u8 b11, .int .u8 b12, .int .u8 b13, .int .u8 b14, .int .u8 b15] 52 := by rw [← hZ]; exact (hA.setOther _ _ hne1).drew
        replace hG : Blk Z bg #[.int .i64 x, .int .i64 y, .int .i64 z, .int .i64 u] 54 := by rw [← hZ]; exact (hG.setOther _ _ hne2).drew
        replace kk : Below w.heap.size w Z := by rw [← hZ]; exact (kk.setCell hbn _).drew
        rw [hZ]
        clear hZ f0 c0 c1 wz
        have hN := hN2
        clear hN2
        obtain ⟨Y, rfl⟩ : ∃ Y : World, Y = Z := ⟨_, rfl⟩
        exact ⟨⟨3 + 1, by omega, rfl, hN, hG, hA, kk⟩, by simp [intOf]⟩
    · obtain rfl : m = 4 := by omega
      rw [show dnI 4 = -1 from rfl]
      rw [show upI b4 b5 b6 b7 4 = b4 + 256 * (b5 + 256 * (b6 + 256 * b7)) by show _ = _; simp only [upI]; omega, show upI b8 b9 b10 b11 4 = b8 + 256 * (b9 + 256 * (b10 + 256 * b11)) by show _ = _; simp only [upI]; omega] at hN
      have zg := hG.lt
      have zn := hN.lt
      have za := hA.lt
      clear hm hlt
      by_cases ok : grtOk [b0, b1, b2, b3, b4, b5, b6, b7, b8, b9, b10, b11, b12, b13, b14, b15] = true
      · obtain ⟨e1, ⟨e12, e13, e14, e15⟩, e0, ez, ef⟩ := HOK.out.1 ok
        obtain ⟨v1, v2⟩ := grtV_yes ok
        have v3 := v1.symm.trans HV.out.1
        have v4 := v2.symm.trans HV.out.2
        have v5 := agg4_inj v3
        clear v3
        subst v4
        subst e1 e12 e13 e14 e15
        have h00 := HB.out b0 (by simp)
        have h2 := HB.out b2 (by simp)
        have h3 := HB.out b3 (by simp)
        have t0 : decide (4 < b0) = false := decide_eq_false (by omega)
        have tz : decide (262144 < b4 + 256 * (b5 + 256 * (b6 + 256 * b7))) = false := decide_eq_false (by omega)
        have tf : decide (65535 < b8 + 256 * (b9 + 256 * (b10 + 256 * b11))) = false := decide_eq_false (by omega)
        have bz : 0 ≤ b4 + 256 * (b5 + 256 * (b6 + 256 * b7)) := by omega
        have bf : 0 ≤ b8 + 256 * (b9 + 256 * (b10 + 256 * b11)) := by omega
        clear v1 v2 ok HOK HV HB H0 hb4 hb5 hb6 hb7 hb8 hb9 hb10 hb11 e0
        have H4 := Lib.hid hA
        clear hA
        have V5 := Lib.hid v5
        clear v5
        generalize b4 + 256 * (b5 + 256 * (b6 + 256 * b7)) = zv at *
        generalize b8 + 256 * (b9 + 256 * (b10 + 256 * b11)) = fv at *
        have qx : (x == b0) = true := by rw [V5.out.1]; simp
        have qy : (y == b2 + 256 * b3) = true := by rw [V5.out.2.1]; simp
        have qz : (z == zv) = true := by rw [V5.out.2.2.1]; simp
        have qu : (u == fv) = true := by rw [V5.out.2.2.2]; simp
        have hA := H4.out
        clear H4 V5
        have n0 := hN.cell 0 (v := .int .u64 zv) rfl
        have n1 := hN.cell 1 (v := .int .u64 fv) rfl
        have r0 := hG.cell 0 (v := .int .i64 x) rfl
        have r1 := hG.cell 1 (v := .int .i64 y) rfl
        have r2 := hG.cell 2 (v := .int .i64 z) rfl
        have r3 := hG.cell 3 (v := .int .i64 u) rfl
        have a0 := hA.cell 0 (v := .int .u8 b0) rfl
        have a1 := hA.cell 1 (v := .int .u8 0) rfl
        have a2 := hA.cell 2 (v := .int .u8 b2) rfl
        have a3 := hA.cell 3 (v := .int .u8 b3) rfl
        have a12 := hA.cell 12 (v := .int .u8 0) rfl
        have a13 := hA.cell 13 (v := .int .u8 0) rfl
        have a14 := hA.cell 14 (v := .int .u8 0) rfl
        have a15 := hA.cell 15 (v := .int .u8 0) rfl
        go_wp2_with fail
        refine (num_callsM _ _).mono ?_; rintro e _ ⟨rfl, rfl⟩
        go_wp2_with fail
        refine (works_okM _).mono ?_; rintro e Z9 ⟨rfl, j9⟩
        go_wp2_with fail
        go_ret
        exact ⟨rfl, (kk.alloc kk.size _).trans (j9.mono (kk.alloc kk.size _).size)⟩
      · have okf : grtOk [b0, b1, b2, b3, b4, b5, b6, b7, b8, b9, b10, b11, b12, b13, b14, b15] = false := by simpa using ok
        obtain ⟨v1, v2⟩ := grtV_no okf
        have v3 := v1.symm.trans HV.out.1
        have v4 := v2.symm.trans HV.out.2
        obtain ⟨rfl, rfl, rfl, rfl⟩ := agg4_inj v3
        clear v3
        subst v4
        have n0 := hN.cell 0 (v := .int .u64 (b4 + 256 * (b5 + 256 * (b6 + 256 * b7)))) rfl
        have n1 := hN.cell 1 (v := .int .u64 (b8 + 256 * (b9 + 256 * (b10 + 256 * b11)))) rfl
        have r0 := hG.cell 0 (v := .int .i64 0) rfl
        have r1 := hG.cell 1 (v := .int .i64 0) rfl
        have r2 := hG.cell 2 (v := .int .i64 0) rfl
        have r3 := hG.cell 3 (v := .int .i64 0) rfl
        have hno := fun h => ok (HOK.out.2 h)
        clear v1 v2 ok okf HOK HV
        have a0 := hA.cell 0 (v := .int .u8 b0) rfl
        by_cases c0 : 4 < b0
        · have t0 : decide (4 < b0) = true := decide_eq_true c0
          clear hno HB
          go_wp2_with fail
          refine (num_callsM _ _).mono ?_; rintro e _ ⟨rfl, rfl⟩
          go_wp2_with fail
          refine (works_okM _).mono ?_; rintro e Z9 ⟨rfl, j9⟩
          go_wp2_with fail
          go_ret
          exact ⟨rfl, (kk).trans (j9.mono (kk).size)⟩
        have t0 : decide (4 < b0) = false := decide_eq_false c0
        have a1 := hA.cell 1 (v := .int .u8 b1) rfl
        by_cases c1 : b1 ≠ 0
        · have t1 : (b1 == 0) = false := by simpa using c1
          clear hno HB
          go_wp2_with fail
          refine (num_callsM _ _).mono ?_; rintro e _ ⟨rfl, rfl⟩
          go_wp2_with fail
          refine (works_okM _).mono ?_; rintro e Z9 ⟨rfl, j9⟩
          go_wp2_with fail
          go_ret
          exact ⟨rfl, (kk).trans (j9.mono (kk).size)⟩
        replace c1 := Decidable.not_not.1 c1
        subst c1
        by_cases cz : 262144 < b4 + 256 * (b5 + 256 * (b6 + 256 * b7))
        · have tz : decide (262144 < b4 + 256 * (b5 + 256 * (b6 + 256 * b7))) = true := decide_eq_true cz
          clear hno HB
          go_wp2_with fail
          refine (num_callsM _ _).mono ?_; rintro e _ ⟨rfl, rfl⟩
          go_wp2_with fail
          refine (works_okM _).mono ?_; rintro e Z9 ⟨rfl, j9⟩
          go_wp2_with fail
          go_ret
          exact ⟨rfl, (kk).trans (j9.mono (kk).size)⟩
        have tz : decide (262144 < b4 + 256 * (b5 + 256 * (b6 + 256 * b7))) = false := decide_eq_false cz
        by_cases cf : 65535 < b8 + 256 * (b9 + 256 * (b10 + 256 * b11))
        · have tf : decide (65535 < b8 + 256 * (b9 + 256 * (b10 + 256 * b11))) = true := decide_eq_true cf
          clear hno HB
          go_wp2_with fail
          refine (num_callsM _ _).mono ?_; rintro e _ ⟨rfl, rfl⟩
          go_wp2_with fail
          refine (works_okM _).mono ?_; rintro e Z9 ⟨rfl, j9⟩
          go_wp2_with fail
          go_ret
          exact ⟨rfl, (kk).trans (j9.mono (kk).size)⟩
        have tf : decide (65535 < b8 + 256 * (b9 + 256 * (b10 + 256 * b11))) = false := decide_eq_false cf
        have a12 := hA.cell 12 (v := .int .u8 b12) rfl
        by_cases c12 : b12 ≠ 0
        · have t12 : (b12 == 0) = false := by simpa using c12
          clear hno HB
          go_wp2_with fail
          refine (num_callsM _ _).mono ?_; rintro e _ ⟨rfl, rfl⟩
          go_wp2_with fail
          refine (works_okM _).mono ?_; rintro e Z9 ⟨rfl, j9⟩
          go_wp2_with fail
          go_ret
          exact ⟨rfl, (kk).trans (j9.mono (kk).size)⟩
        replace c12 := Decidable.not_not.1 c12
        subst c12
        have a13 := hA.cell 13 (v := .int .u8 b13) rfl
        by_cases c13 : b13 ≠ 0
        · have t13 : (b13 == 0) = false := by simpa using c13
          clear hno HB
          go_wp2_with fail
          refine (num_callsM _ _).mono ?_; rintro e _ ⟨rfl, rfl⟩
          go_wp2_with fail
          refine (works_okM _).mono ?_; rintro e Z9 ⟨rfl, j9⟩
          go_wp2_with fail
          go_ret
          exact ⟨rfl, (kk).trans (j9.mono (kk).size)⟩
        replace c13 := Decidable.not_not.1 c13
        subst c13
        have a14 := hA.cell 14 (v := .int .u8 b14) rfl
        by_cases c14 : b14 ≠ 0
        · have t14 : (b14 == 0) = false := by simpa using c14
          clear hno HB
          go_wp2_with fail
          refine (num_callsM _ _).mono ?_; rintro e _ ⟨rfl, rfl⟩
          go_wp2_with fail
          refine (works_okM _).mono ?_; rintro e Z9 ⟨rfl, j9⟩
          go_wp2_with fail
          go_ret
          exact ⟨rfl, (kk).trans (j9.mono (kk).size)⟩
        replace c14 := Decidable.not_not.1 c14
        subst c14
        have a15 := hA.cell 15 (v := .int .u8 b15) rfl
        have c15 : b15 ≠ 0 := fun e => hno ⟨rfl, ⟨rfl, rfl, rfl, e⟩, by omega, by omega, by omega⟩
        have t15 : (b15 == 0) = false := by simpa using c15
        clear hno HB
        go_wp2_with fail
        refine (num_callsM _ _).mono ?_; rintro e _ ⟨rfl, rfl⟩
        go_wp2_with fail
        refine (works_okM _).mono ?_; rintro e Z9 ⟨rfl, j9⟩
        go_wp2_with fail
        go_ret
        exact ⟨rfl, (kk).trans (j9.mono (kk).size)⟩
end Go.Proofs.YtlpchcdalfkfcaaGreat
