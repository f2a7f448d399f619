/-
  Package pinfoldref07: Reserve, asks, Give. Conditions: few frames; what is reserved is small.
-/
import Derived.Test.YtfmkjckckekliaaFrDb
namespace Go.Proofs.Ytfmkjckckekliaa
open Go.RowKit
attribute [local go_sem] Oper.semAt_some
set_option maxHeartbeats 1000000
set_option maxRecDepth 8000

/-- A pool by value, boxed; behind it the box of the result. -/
structure RS (w0 wr : World) (s : Nat) (v : Value) (V : List Int) (L : List Df) : Prop where
  t : Blk wr s (poolV v V) 54
  r : Blk wr (s + 1) (poolV (.slice none 0 0) zeros64) 54
  row : RowAt s wr v L.length (frV L)
  bel : Below s w0 wr
  sz : s + 2 ≤ wr.heap.size
section
variable {w0 wr w' : World} {s : Nat} {v : Value} {V : List Int} {L : List Df}
theorem RS.step (h : RS w0 wr s v V L) (k : Below wr.heap.size wr w') : RS w0 w' s v V L :=
  ⟨h.t.below k h.t.lt, h.r.below k h.r.lt, h.row.below k (by have := h.sz; omega), h.bel.trans (k.mono (by have := h.sz; omega)), Nat.le_trans h.sz k.size⟩
theorem RS.setV (h : RS w0 wr s v V L) (i : Nat) (n : Int) : RS w0 (wr.setCell ⟨s, 1 + i, none⟩ (.int .i64 n)) s v (V.set i n) L := by
  have h1 := h.t.set (1 + i) (.int .i64 n)
  rw [poolV_setV] at h1
  have hb : Below s wr (wr.setCell ⟨s, 1 + i, none⟩ (.int .i64 n)) := (Below.refl s wr).setCell (p := ⟨s, 1 + i, none⟩) (Nat.le_refl _) _
  exact ⟨h1, h.r.setOther _ _ (by show s + 1 ≠ s; omega), h.row.below hb (Nat.le_refl _), h.bel.trans hb, by simpa using h.sz⟩
theorem RS.fin (h : RS w0 wr s v V L) {v2 : Value} {V2 : List Int} {L2 : List Df} (hr : RowAt s wr v2 L2.length (frV L2)) (hV2 : V2.length = 64) (hw : Hid (wr.setCells (s + 1) 0 (poolV v2 V2).toList = w')) :
    Blk w' (s + 1) (poolV v2 V2) 54 ∧ RowAt w'.heap.size w' v2 L2.length (frV L2) ∧ Below s w0 w' := by
  have e := hw.out
  have h1 := h.r.whole (poolV v2 V2) ((poolV_size _ hV2).trans (poolV_size _ rfl).symm)
  have hb := bel_setCells (Below.refl s wr) (show s ≤ s + 1 by omega) (poolV v2 V2).toList 0
  rw [e] at h1 hb
  exact ⟨h1, (hr.below hb (Nat.le_refl _)).mono (Nat.le_trans (by have := h.sz; omega) hb.size), h.bel.trans hb⟩
theorem RS.finO (h : RS w0 wr s v V L) {v2 : Value} {V2 : List Int} {L2 : List Df} {base : Nat} (hb : s + 2 ≤ base) (hr : wr.ownsRow base 93 2 v2 L2.length (frV L2)) (hV2 : V2.length = 64) (hw : Hid (wr.setCells (s + 1) 0 (poolV v2 V2).toList = w')) :
    Blk w' (s + 1) (poolV v2 V2) 54 ∧ RowAt w'.heap.size w' v2 L2.length (frV L2) ∧ Below s w0 w' := by
  have e := hw.out
  have h1 := h.r.whole (poolV v2 V2) ((poolV_size _ hV2).trans (poolV_size _ rfl).symm)
  have hb' := bel_setCells (Below.refl s wr) (show s ≤ s + 1 by omega) (poolV v2 V2).toList 0
  have h2 := owns_setCellsL hr (show s + 1 < base by omega) (poolV v2 V2).toList 0
  rw [e] at h1 hb' h2
  exact ⟨h1, RowAt.of_owns h2 (Nat.le_refl _), h.bel.trans hb'⟩
end
theorem RowAt.one {B n : Nat} {W : World} {v : Value} {xs : List Value} (h : RowAt B W v n xs) : v.oneCell' = true := by
  obtain ⟨a, c, rfl, _⟩ := h.len
  rfl
theorem RS.new {w : World} {v : Value} {V : List Int} {L : List Df} {B : Nat} (hB : B ≤ w.heap.size) (hv : RowAt B w v L.length (frV L)) :
    RS w ((w.alloc (.cells (poolV v V) 54)).alloc (.cells Try.zeroCells54 54)) w.heap.size v V L := by
  have k0 : Below w.heap.size w ((w.alloc (.cells (poolV v V) 54)).alloc (.cells Try.zeroCells54 54)) := ((Below.refl _ w).alloc (Nat.le_refl _) _).alloc (by simp) _
  exact ⟨(Blk.new w _ _).alloc _, by rw [← zero_pool]; exact Blk.newAt _ _ _ (by simp), (hv.below k0 hB).mono hB, k0, by simp⟩
structure RvS (s : Nat) (v : Value) (V : List Int) (Y : World) : Prop where
  b : Blk Y s (poolV v V) 54
/-! ### Reserve -/
theorem rsvE_nn {L : List Df} {V : List Int} {o n : Int} (h : badOwner o = false) (h1 : ¬ n < 0) : rsvE L V o n = if n < takD L o then 172 else if roomD L V + V.getD o.toNat 0 < n then 170 else 0 := by
  unfold rsvE; rw [if_neg (by rw [h]; decide), if_neg h1]
theorem getD_bd {V : List Int} (h0 : ∀ x ∈ V, 0 ≤ x) {m : Int} (hs : V.sum ≤ m) (k : Nat) : 0 ≤ V.getD k 0 ∧ V.getD k 0 ≤ m := by
  have h1 := sum_take_bd h0 k
  have h2 := sum_take_bd h0 (k + 1)
  by_cases hk : k < V.length
  · have := sum_takeS V k hk
    have h3 := h0 _ (List.getElem_mem hk)
    rw [List.getD_eq_getElem?_getD, List.getElem?_eq_getElem hk, Option.getD_some] at this ⊢
    omega
  · rw [List.getD_eq_getElem?_getD, List.getElem?_eq_none (by omega)]
    show (0 : Int) ≤ 0 ∧ (0 : Int) ≤ m
    omega
theorem roomD_bd (L : List Df) {V : List Int} (h0 : ∀ x ∈ V, 0 ≤ x) (hs : V.sum ≤ 1000000) (hl : L.length < 1000000) : -1000000 ≤ roomD L V ∧ roomD L V ≤ 1000000 := by
  have := sum_take_bd h0 0
  unfold roomD
  simp at this
  omega
theorem rReserve_ok (v : Value) {V : List Int} (L : List Df) (B : Nat) (o n : Int) (w : World) (hB : B ≤ w.heap.size) (hl : L.length < 1000000) (hV : V.length = 64) (h0 : ∀ x ∈ V, 0 ≤ x) (hsm : V.sum ≤ 1000000) (hv : RowAt B w v L.length (frV L)) :
    Calls Try.prog 42 #[.agg (poolV v V), .int .i64 o, .int .i64 n] w fun e w' =>
      ∃ v', e = .returned (.tuple #[.agg (poolV v' (rsvV L V o n)), .int .i64 (rsvE L V o n)]) ∧ RowAt w'.heap.size w' v' L.length (frV L) ∧ Below w.heap.size w w' := by
  obtain ⟨a1, c1, rfl, _⟩ := hv.len
  obtain ⟨w0, hw0⟩ : ∃ w0, (w.alloc (.cells (poolV (.slice a1 L.length c1) V) 54)).alloc (.cells Try.zeroCells54 54) = w0 := ⟨_, rfl⟩
  have hM := RS.new (V := V) hB hv
  rw [hw0] at hM
  have HVL := Lib.hid hV
  have HP0 := Lib.hid h0
  obtain ⟨s, hs⟩ : ∃ s, w.heap.size = s := ⟨_, rfl⟩
  have HS := Lib.hid hs
  rw [hs] at hM
  clear hv hV h0
  have hbad : rsvE L V o n ≠ 0 → rsvV L V o n = V := fun h => by unfold rsvV; rw [if_neg h]
  have HBD := Lib.hid hbad
  clear hbad
  go_enter Try.func42, Try.ntmps42
  go_wp2_with fail
  clear hw0 hs
  refine (rOwner_ok _ _).mono ?_; rintro e _ ⟨rfl, rfl⟩
  cases hbo : badOwner o
  · have hoo := ownerOk.1 (show ¬ badOwner o = true by rw [hbo]; decide)
    obtain ⟨o0, o1⟩ := hoo
    by_cases hn : n < 0
    · have he : rsvE L V o n = 2 := by unfold rsvE; rw [if_neg (by rw [hbo]; decide), if_pos hn]
      have HE := Lib.hid he
      have HV2 := Lib.hid (HBD.out (by rw [he]; decide))
      clear he hbo
      go_wp2_with (first | refine wpList_loadB ty65 rfl _ rfl s rfl hM.t (poolV_size _ HVL.out) ?_ | refine wpList_storeBG ty65 rfl _ _ rfl (s + 1) (poolV (.slice a1 L.length c1) V) rfl rfl hM.r (poolV_size _ rfl) (poolV_size _ HVL.out) (poolV_one rfl V) ?_)
      intro w9 hw9
      obtain ⟨hO, hR, hK⟩ := hM.fin hM.row HVL.out hw9
      clear hw9 hM
      go_wp2_with fail
      refine ret_p2 rfl (s + 1) rfl hO (poolV_size _ HVL.out) rfl ?_
      refine ⟨.slice a1 L.length c1, ?_, hR, by rw [HS.out]; exact hK⟩
      rw [HE.out, HV2.out]; rfl
    · have he0 := rsvE_nn (L := L) (V := V) hbo hn
      have HE0 := Lib.hid he0
      obtain ⟨k, rfl⟩ : ∃ k : Nat, o = k := ⟨o.toNat, by omega⟩
      have hk : k < 64 := by omega
      rw [Int.toNat_natCast] at HE0
      clear he0 hbo
      go_wp2_with (refine wpList_loadB ty65 rfl _ rfl s rfl hM.t (poolV_size _ HVL.out) ?_)
      refine (rTaken_ok (.slice a1 L.length c1) V L s k w0 (by have := hM.sz; omega) hl hM.row).mono ?_; rintro e w2 ⟨rfl, k2⟩
      replace hM := hM.step k2
      clear k2
      obtain ⟨tk, htk⟩ : ∃ tk, takD L k = tk := ⟨_, rfl⟩
      rw [htk] at HE0 ⊢
      clear htk
      by_cases h1 : n < tk
      · have he : rsvE L V k n = 172 := by rw [HE0.out, if_pos h1]
        have HE := Lib.hid he
        have HV2 := Lib.hid (HBD.out (by rw [he]; decide))
        clear he
        go_wp2_with (first | refine wpList_loadB ty65 rfl _ rfl s rfl hM.t (poolV_size _ HVL.out) ?_ | refine wpList_storeBG ty65 rfl _ _ rfl (s + 1) (poolV (.slice a1 L.length c1) V) rfl rfl hM.r (poolV_size _ rfl) (poolV_size _ HVL.out) (poolV_one rfl V) ?_)
        intro w9 hw9
        obtain ⟨hO, hR, hK⟩ := hM.fin hM.row HVL.out hw9
        clear hw9 hM
        go_wp2_with fail
        refine ret_p2 rfl (s + 1) rfl hO (poolV_size _ HVL.out) rfl ?_
        refine ⟨.slice a1 L.length c1, ?_, hR, by rw [HS.out]; exact hK⟩
        rw [HE.out, HV2.out]; rfl
      · go_wp2_with fail
        refine wp_onlyN ?_
        refine wp_region_held_drew (S := RvS s (.slice a1 L.length c1) V) (by kernel_rfl) ⟨hM.t.drew⟩ (fun hHeld => ?_)
        replace hM := hM.step (Below.refl _ w2).drew
        change wpAnyH _ _ _ _ _ _ _ _ w2.drew
        generalize w2.drew = w3 at hM hHeld ⊢
        have i0 : (0 : Int) ≤ k := by omega
        have i1 : (k : Int) < 64 := by omega
        have hyb := getD_bd HP0.out (show V.sum ≤ 1000000 from hsm) k
        obtain ⟨y, hy⟩ : ∃ y, V.getD k 0 = y := ⟨_, rfl⟩
        have HY := Lib.hid hy
        rw [hy] at hyb HE0
        clear hy
        refine wpAnyH_take (i := 0) (v := ?_) rfl (by kernel_rfl) (by kernel_rfl) (by kernel_rfl) (fun _ _ _ h => h) (Or.inl ⟨by rfl, ?_⟩) (by assumption) ?_
        rotate_left
        · (intro Y hSw; (try dsimp only at hSw); obtain ⟨hS0⟩ := hSw; go_simp; try with_reducible rfl)
        try simp only [Act.put, List.getElem_toArray, List.getElem_cons_zero, List.getElem_cons_succ, List.setIfInBounds_toArray, List.set_cons_zero, List.set_cons_succ]
        refine wpAnyH_take (i := 1) (v := .agg (poolV (.slice a1 L.length c1) V)) rfl (by kernel_rfl) (by kernel_rfl) (by kernel_rfl) (fun _ _ _ h => h) (Or.inl ⟨by rfl, fun Y hSw => exec_loadB ty65 _ rfl s rfl hSw.b (poolV_size _ HVL.out)⟩) (by assumption) ?_
        try simp only [Act.put, List.getElem_toArray, List.getElem_cons_zero, List.getElem_cons_succ, List.setIfInBounds_toArray, List.set_cons_zero, List.set_cons_succ]
        refine wpAnyH_take (i := 3) (v := ?_) rfl (by kernel_rfl) (by kernel_rfl) (by kernel_rfl) (fun _ _ _ h => h) (Or.inl ⟨by rfl, ?_⟩) (by assumption) ?_
        rotate_left
        · (intro Y hSw; (try dsimp only at hSw); obtain ⟨hS0⟩ := hSw; go_simp; try with_reducible rfl)
        try simp only [Act.put, List.getElem_toArray, List.getElem_cons_zero, List.getElem_cons_succ, List.setIfInBounds_toArray, List.set_cons_zero, List.set_cons_succ]
        refine wpAnyH_take (i := 4) (v := ?_) rfl (by kernel_rfl) (by kernel_rfl) (by kernel_rfl) (fun _ _ _ h => h) (Or.inl ⟨by rfl, ?_⟩) (by assumption) ?_
        rotate_left
        · (intro Y hSw; (try dsimp only at hSw); obtain ⟨hS0⟩ := hSw; go_simp; try with_reducible rfl)
        try simp only [Act.put, List.getElem_toArray, List.getElem_cons_zero, List.getElem_cons_succ, List.setIfInBounds_toArray, List.set_cons_zero, List.set_cons_succ]
        refine wpAnyH_take (i := 5) (v := ?_) rfl (by kernel_rfl) (by kernel_rfl) (by kernel_rfl) (fun _ _ _ h => h) (Or.inl ⟨by rfl, ?_⟩) (by assumption) ?_
        rotate_left
        · (intro Y hSw; (try dsimp only at hSw); obtain ⟨hS0⟩ := hSw; go_simp; try with_reducible rfl)
        try simp only [Act.put, List.getElem_toArray, List.getElem_cons_zero, List.getElem_cons_succ, List.setIfInBounds_toArray, List.set_cons_zero, List.set_cons_succ]
        refine wpAnyH_take (i := 6) (v := .int .i64 y) rfl (by kernel_rfl) (by kernel_rfl) (by kernel_rfl) (fun _ _ _ h => h) (Or.inl ⟨by rfl, by intro Y hSw; have c9 := hSw.b.cell _ (poolV_at (.slice a1 L.length c1) k (by rw [HVL.out]; exact hk)); rw [HY.out] at c9; go_simp⟩) (by assumption) ?_
        try simp only [Act.put, List.getElem_toArray, List.getElem_cons_zero, List.getElem_cons_succ, List.setIfInBounds_toArray, List.set_cons_zero, List.set_cons_succ]
        refine wpAnyH_ready (rs := [2]) (by kernel_rfl) (by simp) ?_
        refine AllReadyH.cons rfl (fun K hK => ?_) AllReadyH.nil
        go_simp
        refine (rRoom_ok (.slice a1 L.length c1) L s w3 (by have := hM.sz; omega) hl HVL.out HP0.out hsm hM.row).mono ?_; rintro e w4 ⟨rfl, k4⟩
        replace hM := hM.step k4
        clear k4
        go_simp
        refine hK.out _ _ (⟨hM.t⟩) (fun hHeld => ?_)
        clear hK K
        try simp only [Act.put, List.getElem_toArray, List.getElem_cons_zero, List.getElem_cons_succ, List.setIfInBounds_toArray, List.set_cons_zero, List.set_cons_succ]
        have hrm := roomD_bd L (V := V) HP0.out hsm hl
        obtain ⟨rm, hrm'⟩ : ∃ rm, roomD L V = rm := ⟨_, rfl⟩
        rw [hrm'] at hrm HE0 ⊢
        have hwr : IntKind.i64.wrap (rm + y) = rm + y := IntWalk.i64_in _ (by omega)
        clear hrm'
        by_cases h2 : rm + y < n
        · have he : rsvE L V k n = 170 := by rw [HE0.out, if_neg (show ¬ n < tk by omega), if_pos h2]
          have HE := Lib.hid he
          have HV2 := Lib.hid (HBD.out (by rw [he]; decide))
          clear he
          refine wpAnyH_take (i := 7) (v := .int .i64 (rm + y)) rfl (by kernel_rfl) (by kernel_rfl) (by kernel_rfl) (fun _ _ _ h => h) (Or.inl ⟨by rfl, by intro Y hSw; go_simp⟩) (by assumption) ?_
          try simp only [Act.put, List.getElem_toArray, List.getElem_cons_zero, List.getElem_cons_succ, List.setIfInBounds_toArray, List.set_cons_zero, List.set_cons_succ]
          refine wpAnyH_take (i := 8) (v := .bool true) rfl (by kernel_rfl) (by kernel_rfl) (by kernel_rfl) (fun _ _ _ h => h) (Or.inl ⟨by rfl, by intro Y hSw; go_simp; try omega⟩) (by assumption) ?_
          try simp only [Act.put, List.getElem_toArray, List.getElem_cons_zero, List.getElem_cons_succ, List.setIfInBounds_toArray, List.set_cons_zero, List.set_cons_succ]
          refine wpAnyH_done (by kernel_rfl) ?_ _
          rw [onlyN_normal]
          clear hHeld hwr
          go_wp2_with (first | refine wpList_loadB ty65 rfl _ rfl s rfl hM.t (poolV_size _ HVL.out) ?_ | refine wpList_storeBG ty65 rfl _ _ rfl (s + 1) (poolV (.slice a1 L.length c1) V) rfl rfl hM.r (poolV_size _ rfl) (poolV_size _ HVL.out) (poolV_one rfl V) ?_)
          intro w9 hw9
          obtain ⟨hO, hR, hK⟩ := hM.fin hM.row HVL.out hw9
          clear hw9 hM
          go_wp2_with fail
          refine ret_p2 rfl (s + 1) rfl hO (poolV_size _ HVL.out) rfl ?_
          refine ⟨.slice a1 L.length c1, ?_, hR, by rw [HS.out]; exact hK⟩
          rw [HE.out, HV2.out]; rfl
        · have he : rsvE L V k n = 0 := by rw [HE0.out, if_neg (show ¬ n < tk by omega), if_neg (show ¬ rm + y < n by omega)]
          have HE := Lib.hid he
          have hv2 : rsvV L V k n = V.set k n := by unfold rsvV; rw [if_pos he, Int.toNat_natCast]
          have HV2 := Lib.hid hv2
          clear he hv2
          refine wpAnyH_take (i := 7) (v := .int .i64 (rm + y)) rfl (by kernel_rfl) (by kernel_rfl) (by kernel_rfl) (fun _ _ _ h => h) (Or.inl ⟨by rfl, by intro Y hSw; go_simp⟩) (by assumption) ?_
          try simp only [Act.put, List.getElem_toArray, List.getElem_cons_zero, List.getElem_cons_succ, List.setIfInBounds_toArray, List.set_cons_zero, List.set_cons_succ]
          refine wpAnyH_take (i := 8) (v := .bool false) rfl (by kernel_rfl) (by kernel_rfl) (by kernel_rfl) (fun _ _ _ h => h) (Or.inl ⟨by rfl, by intro Y hSw; go_simp; try omega⟩) (by assumption) ?_
          try simp only [Act.put, List.getElem_toArray, List.getElem_cons_zero, List.getElem_cons_succ, List.setIfInBounds_toArray, List.set_cons_zero, List.set_cons_succ]
          refine wpAnyH_done (by kernel_rfl) ?_ _
          rw [onlyN_normal]
          clear hHeld hwr
          have c9 : w4.cell? ⟨s, 1 + k, none⟩ = some (.int .i64 (V.getD k 0)) := hM.t.cell _ (poolV_at (.slice a1 L.length c1) k (by rw [HVL.out]; exact hk))
          rw [HY.out] at c9
          have fz := hM.t.frozen (1 + k)
          have hM' := hM.setV k n
          have HM5 := Lib.hid hM'
          have hl2 : (V.set k n).length = 64 := by rw [List.length_set]; exact HVL.out
          have HVL2 := Lib.hid hl2
          have HM0 := Lib.hid hM
          clear hM' hM hl2
          go_wp2_with (first | refine wpList_loadB ty65 rfl _ rfl s rfl HM5.out.t (poolV_size _ HVL2.out) ?_ | refine wpList_storeBG ty65 rfl _ _ rfl (s + 1) (poolV (.slice a1 L.length c1) (V.set k n)) rfl rfl HM5.out.r (poolV_size _ rfl) (poolV_size _ HVL2.out) (poolV_one rfl _) ?_)
          intro w9 hw9
          obtain ⟨hO, hR, hK⟩ := HM5.out.fin HM5.out.row HVL2.out hw9
          clear hw9 HM5 c9 fz
          go_wp2_with fail
          refine ret_p2 rfl (s + 1) rfl hO (poolV_size _ HVL2.out) rfl ?_
          refine ⟨.slice a1 L.length c1, ?_, hR, by rw [HS.out]; exact hK⟩
          rw [HE.out, HV2.out]; rfl
  · have he : rsvE L V o n = 2 := by unfold rsvE; rw [if_pos hbo]
    have HE := Lib.hid he
    have HV2 := Lib.hid (HBD.out (by rw [he]; decide))
    clear he hbo
    go_wp2_with (first | refine wpList_loadB ty65 rfl _ rfl s rfl hM.t (poolV_size _ HVL.out) ?_ | refine wpList_storeBG ty65 rfl _ _ rfl (s + 1) (poolV (.slice a1 L.length c1) V) rfl rfl hM.r (poolV_size _ rfl) (poolV_size _ HVL.out) (poolV_one rfl V) ?_)
    intro w9 hw9
    obtain ⟨hO, hR, hK⟩ := hM.fin hM.row HVL.out hw9
    clear hw9 hM
    go_wp2_with fail
    refine ret_p2 rfl (s + 1) rfl hO (poolV_size _ HVL.out) rfl ?_
    refine ⟨.slice a1 L.length c1, ?_, hR, by rw [HS.out]; exact hK⟩
    rw [HE.out, HV2.out]; rfl
/-! ### asks -/
theorem getD_at (L : List Df) (k : Nat) (h : k < L.length) : L.getD k (0, []) = L[k] := by
  rw [List.getD_eq_getElem?_getD, List.getElem?_eq_getElem h]; rfl
theorem rAsks_ok (v : Value) (V : List Int) (L : List Df) (B : Nat) (fr at_ n : Int) (w : World) (hB : B ≤ w.heap.size) (hl : L.length < 1000000) (hv : RowAt B w v L.length (frV L)) :
    Calls Try.prog 66 #[.agg (poolV v V), .int .i64 fr, .int .i64 at_, .int .i64 n] w fun e w' => e = .returned (.int .i64 (asE L fr at_ n)) ∧ Below w.heap.size w w' := by
  obtain ⟨a1, c1, rfl, _⟩ := hv.len
  obtain ⟨w0, hw0⟩ : ∃ w0, w.alloc (.cells (poolV (.slice a1 L.length c1) V) 54) = w0 := ⟨_, rfl⟩
  have hX : Blk w0 w.heap.size (poolV (.slice a1 L.length c1) V) 54 := by rw [← hw0]; exact Blk.new w _ _
  have k0 : Below w.heap.size w w0 := by rw [← hw0]; exact (Below.refl _ w).alloc (Nat.le_refl _) _
  have c0 : w0.cell? ⟨w.heap.size, 0, none⟩ = some (.slice a1 L.length c1) := hX.cell 0 (poolV_zero _ _)
  have H1 := Lib.hid (hv.below k0 hB)
  clear hv hX
  by_cases h1 : fr < 0
  · have he : asE L fr at_ n = 4 := by unfold asE; rw [if_pos (by omega)]
    have HE := Lib.hid he
    clear he
    go_enter Try.func66, Try.ntmps66
    go_wp2_with fail
    go_ret
    exact ⟨by rw [HE.out]; rfl, k0⟩
  by_cases h2 : (L.length : Int) ≤ fr
  · have he : asE L fr at_ n = 4 := by unfold asE; rw [if_pos (by omega)]
    have HE := Lib.hid he
    clear he
    go_enter Try.func66, Try.ntmps66
    go_wp2_with fail
    go_ret
    exact ⟨by rw [HE.out]; rfl, k0⟩
  by_cases h3 : at_ < 0
  · have he : asE L fr at_ n = 4 := by unfold asE; rw [if_pos (by omega)]
    have HE := Lib.hid he
    clear he
    go_enter Try.func66, Try.ntmps66
    go_wp2_with fail
    go_ret
    exact ⟨by rw [HE.out]; rfl, k0⟩
  by_cases h4 : 256 < at_
  · have he : asE L fr at_ n = 4 := by unfold asE; rw [if_pos (by omega)]
    have HE := Lib.hid he
    clear he
    go_enter Try.func66, Try.ntmps66
    go_wp2_with fail
    go_ret
    exact ⟨by rw [HE.out]; rfl, k0⟩
  by_cases h5 : n < 0
  · have he : asE L fr at_ n = 4 := by unfold asE; rw [if_pos (by omega)]
    have HE := Lib.hid he
    clear he
    go_enter Try.func66, Try.ntmps66
    go_wp2_with fail
    go_ret
    exact ⟨by rw [HE.out]; rfl, k0⟩
  have hwr : IntKind.i64.wrap (256 - at_) = 256 - at_ := IntWalk.i64_in _ (by omega)
  by_cases h6 : 256 - at_ < n
  · have he : asE L fr at_ n = 4 := by unfold asE; rw [if_pos (by omega)]
    have HE := Lib.hid he
    clear he
    go_enter Try.func66, Try.ntmps66
    go_wp2_with fail
    go_ret
    exact ⟨by rw [HE.out]; rfl, k0⟩
  obtain ⟨k, rfl⟩ : ∃ k : Nat, fr = k := ⟨fr.toNat, by omega⟩
  have hk : k < L.length := by omega
  obtain ⟨b1, o1, rfl, _, q⟩ := H1.out.getf k hk
  have q0 := q.c0
  have he : asE L k at_ n = if L[k].1 < 0 then 5 else 0 := by unfold asE; rw [if_neg (by omega), Int.toNat_natCast, getD_at L k hk]
  obtain ⟨y, hy⟩ : ∃ y, L[k].1 = y := ⟨_, rfl⟩
  rw [hy] at q0 he
  clear hy q
  by_cases h7 : y < 0
  · rw [if_pos h7] at he
    have HE := Lib.hid he
    clear he
    go_enter Try.func66, Try.ntmps66
    go_wp2_with fail
    go_ret
    exact ⟨by rw [HE.out]; rfl, k0⟩
  · rw [if_neg h7] at he
    have HE := Lib.hid he
    clear he
    go_enter Try.func66, Try.ntmps66
    go_wp2_with fail
    go_ret
    exact ⟨by rw [HE.out]; rfl, k0⟩
/-! ### Give -/
theorem rGive_ok (v : Value) {V : List Int} (L : List Df) (B : Nat) (fr : Int) (w : World) (hB : B ≤ w.heap.size) (hl : L.length < 1000000) (hV : V.length = 64) (hv : RowAt B w v L.length (frV L)) :
    Calls Try.prog 44 #[.agg (poolV v V), .int .i64 fr] w fun e w' =>
      ∃ v', e = .returned (.tuple #[.agg (poolV v' V), .int .i64 (gvE L fr)]) ∧ RowAt w'.heap.size w' v' (gvL L fr).length (frV (gvL L fr)) ∧ Below w.heap.size w w' := by
  obtain ⟨a1, c1, rfl, _⟩ := hv.len
  obtain ⟨w0, hw0⟩ : ∃ w0, (w.alloc (.cells (poolV (.slice a1 L.length c1) V) 54)).alloc (.cells Try.zeroCells54 54) = w0 := ⟨_, rfl⟩
  have hM := RS.new (V := V) hB hv
  rw [hw0] at hM
  have HVL := Lib.hid hV
  obtain ⟨s, hs⟩ : ∃ s, w.heap.size = s := ⟨_, rfl⟩
  have HS := Lib.hid hs
  rw [hs] at hM
  clear hv hV
  have hbad : gvE L fr ≠ 0 → gvL L fr = L := fun h => by unfold gvL; rw [if_neg h]
  have HBD := Lib.hid hbad
  have c0 : w0.cell? ⟨s, 0, none⟩ = some (.slice a1 L.length c1) := hM.t.cell 0 (poolV_zero _ _)
  clear hbad
  by_cases h1 : fr < 0
  · have he : gvE L fr = 4 := by unfold gvE; rw [if_pos (by omega)]
    have HE := Lib.hid he
    have HL2 := Lib.hid (HBD.out (by rw [he]; decide))
    clear he
    go_enter Try.func44, Try.ntmps44
    go_wp2_with (first | refine wpList_loadB ty65 rfl _ rfl s rfl hM.t (poolV_size _ HVL.out) ?_ | refine wpList_storeBG ty65 rfl _ _ rfl (s + 1) (poolV (.slice a1 L.length c1) V) rfl rfl hM.r (poolV_size _ rfl) (poolV_size _ HVL.out) (poolV_one rfl V) ?_)
    intro w9 hw9
    obtain ⟨hO, hR, hK⟩ := hM.fin hM.row HVL.out hw9
    clear hw9 hM
    go_wp2_with fail
    refine ret_p2 rfl (s + 1) rfl hO (poolV_size _ HVL.out) rfl ?_
    refine ⟨.slice a1 L.length c1, ?_, by rw [HL2.out]; exact hR, by rw [HS.out]; exact hK⟩
    rw [HE.out]; rfl
  by_cases h2 : (L.length : Int) ≤ fr
  · have he : gvE L fr = 4 := by unfold gvE; rw [if_pos (by omega)]
    have HE := Lib.hid he
    have HL2 := Lib.hid (HBD.out (by rw [he]; decide))
    clear he
    go_enter Try.func44, Try.ntmps44
    go_wp2_with (first | refine wpList_loadB ty65 rfl _ rfl s rfl hM.t (poolV_size _ HVL.out) ?_ | refine wpList_storeBG ty65 rfl _ _ rfl (s + 1) (poolV (.slice a1 L.length c1) V) rfl rfl hM.r (poolV_size _ rfl) (poolV_size _ HVL.out) (poolV_one rfl V) ?_)
    intro w9 hw9
    obtain ⟨hO, hR, hK⟩ := hM.fin hM.row HVL.out hw9
    clear hw9 hM
    go_wp2_with fail
    refine ret_p2 rfl (s + 1) rfl hO (poolV_size _ HVL.out) rfl ?_
    refine ⟨.slice a1 L.length c1, ?_, by rw [HL2.out]; exact hR, by rw [HS.out]; exact hK⟩
    rw [HE.out]; rfl
  obtain ⟨k, rfl⟩ : ∃ k : Nat, fr = k := ⟨fr.toNat, by omega⟩
  have hk : k < L.length := by omega
  have hrw := hM.row
  obtain ⟨b1, o1, rfl, _, q⟩ := hrw.getf k hk
  have q0 := q.c0
  have he : gvE L k = if L[k].1 < 0 then 5 else 0 := by unfold gvE; rw [if_neg (by omega), Int.toNat_natCast, getD_at L k hk]
  obtain ⟨y, hy⟩ : ∃ y, L[k].1 = y := ⟨_, rfl⟩
  rw [hy] at q0 he
  have HRW := Lib.hid hrw
  clear hy q hrw
  by_cases h7 : y < 0
  · rw [if_pos h7] at he
    have HE := Lib.hid he
    have HL2 := Lib.hid (HBD.out (by rw [he]; decide))
    clear he
    go_enter Try.func44, Try.ntmps44
    go_wp2_with (first | refine wpList_loadB ty65 rfl _ rfl s rfl hM.t (poolV_size _ HVL.out) ?_ | refine wpList_storeBG ty65 rfl _ _ rfl (s + 1) (poolV (.slice (some ⟨b1, o1, none⟩) L.length c1) V) rfl rfl hM.r (poolV_size _ rfl) (poolV_size _ HVL.out) (poolV_one rfl V) ?_)
    intro w9 hw9
    obtain ⟨hO, hR, hK⟩ := hM.fin hM.row HVL.out hw9
    clear hw9 hM c0 q0
    go_wp2_with fail
    refine ret_p2 rfl (s + 1) rfl hO (poolV_size _ HVL.out) rfl ?_
    refine ⟨.slice (some ⟨b1, o1, none⟩) L.length c1, ?_, by rw [HL2.out]; exact hR, by rw [HS.out]; exact hK⟩
    rw [HE.out]; rfl
  · rw [if_neg h7] at he
    have HE := Lib.hid he
    have hl2 : gvL L k = L.set k (-1, []) := by unfold gvL; rw [if_pos he, Int.toNat_natCast]
    have HL2 := Lib.hid hl2
    clear he hl2
    have HM0 := Lib.hid hM
    go_enter Try.func44, Try.ntmps44
    go_wp2_with (refine wpList_loadB ty65 rfl _ rfl s rfl HM0.out.t (poolV_size _ HVL.out) ?_)
    clear c0 q0
    refine (rWith_ok (.slice (some ⟨b1, o1, none⟩) L.length c1) L s k (-1, []) w0 (by have := hM.sz; omega) hl hk HVL.out HRW.out).mono ?_; rintro e w2 ⟨v2, rfl, ho2, k2⟩
    have hsz := hM.sz
    replace hM := hM.step k2
    clear k2 HM0 HRW
    obtain ⟨L2, hL2⟩ : ∃ L2, L.set k (-1, []) = L2 := ⟨_, rfl⟩
    rw [hL2] at ho2 HL2
    have hv2 := (RowAt.of_owns ho2 (Nat.le_refl _)).one
    have HV1 := Lib.hid hv2
    clear hL2 hv2
    go_wp2_with (refine wpList_storeBG ty65 rfl _ _ rfl (s + 1) (poolV v2 V) rfl rfl hM.r (poolV_size _ rfl) (poolV_size _ HVL.out) (poolV_one HV1.out V) ?_)
    intro w9 hw9
    obtain ⟨hO, hR, hK⟩ := hM.finO hsz ho2 HVL.out hw9
    clear hw9 hM ho2
    go_wp2_with fail
    refine ret_p2 rfl (s + 1) rfl hO (poolV_size _ HVL.out) rfl ?_
    refine ⟨v2, ?_, by rw [HL2.out]; exact hR, by rw [HS.out]; exact hK⟩
    rw [HE.out]; rfl
end Go.Proofs.Ytfmkjckckekliaa
