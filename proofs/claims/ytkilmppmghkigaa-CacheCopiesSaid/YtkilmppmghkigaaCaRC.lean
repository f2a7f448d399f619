/-
  Package pinfoldref18: Put. Conditions: shelves of fewer than a million.
-/
import Derived.Test.YtkilmppmghkigaaCaRB
namespace Go.Proofs.Ytkilmppmghkigaa
open Go.RowKit
attribute [local go_sem] Oper.semAt_some
set_option maxHeartbeats 4000000
set_option maxRecDepth 8000

theorem putAfter_no {R : Nat → List Int} {t c x k : Int} (h : putErr R t c x = k) (hk : k ≠ 0) : putAfter R t c x = R := by unfold putAfter; rw [h, if_neg hk]
theorem rPut_ok {B : Nat} {w : World} {cs : Array Value} {R : Nat → List Int} (hV : RefV B w cs R) (hB : B ≤ w.heap.size) (hR : ∀ i, (R i).length < 1000000) (t c x : Int) :
    Calls Try.prog 36 #[.agg cs, .int .i64 t, .int .i64 c, .int .i64 x] w fun e w' => ∃ cs', e = .returned (.tuple #[.agg cs', .int .i64 (putErr R t c x)]) ∧ RefV w'.heap.size w' cs' (putAfter R t c x) ∧ Below w.heap.size w w' := by
  obtain ⟨w0, hw0⟩ : ∃ w0, (w.alloc (.cells cs 44)).alloc (.cells #[.slice none 0 0, .slice none 0 0, .slice none 0 0, .slice none 0 0, .slice none 0 0, .slice none 0 0, .slice none 0 0, .slice none 0 0, .slice none 0 0, .slice none 0 0, .slice none 0 0, .slice none 0 0, .slice none 0 0, .slice none 0 0, .slice none 0 0, .slice none 0 0, .slice none 0 0, .slice none 0 0, .slice none 0 0, .slice none 0 0, .slice none 0 0, .slice none 0 0, .slice none 0 0, .slice none 0 0, .slice none 0 0, .slice none 0 0, .slice none 0 0, .slice none 0 0, .slice none 0 0, .slice none 0 0, .slice none 0 0, .slice none 0 0] 44) = w0 := ⟨_, rfl⟩
  have hb0 : Below w.heap.size w w0 := by rw [← hw0]; exact ((Below.refl _ w).alloc (Nat.le_refl _) _).alloc (by simp) _
  have hA : Blk w0 w.heap.size cs 44 := by rw [← hw0]; exact (Blk.new w _ _).alloc _
  have hO : Blk w0 (w.heap.size + 1) #[.slice none 0 0, .slice none 0 0, .slice none 0 0, .slice none 0 0, .slice none 0 0, .slice none 0 0, .slice none 0 0, .slice none 0 0, .slice none 0 0, .slice none 0 0, .slice none 0 0, .slice none 0 0, .slice none 0 0, .slice none 0 0, .slice none 0 0, .slice none 0 0, .slice none 0 0, .slice none 0 0, .slice none 0 0, .slice none 0 0, .slice none 0 0, .slice none 0 0, .slice none 0 0, .slice none 0 0, .slice none 0 0, .slice none 0 0, .slice none 0 0, .slice none 0 0, .slice none 0 0, .slice none 0 0, .slice none 0 0, .slice none 0 0] 44 := by rw [← hw0]; exact Blk.newAt _ _ _ (by simp)
  have hV0 := hV.below hb0 hB
  go_enter Try.func36, Try.ntmps36
  go_wp2_with fail
  refine (Thread_calls t _).mono ?_; rintro e _ ⟨rfl, rfl⟩
  by_cases h1 : badIn t 4 = true
  · have hE : putErr R t c x = 2 := by unfold putErr; rw [if_pos h1]
    have hF := putAfter_no hE (by decide)
    have HE := Lib.hid hE
    have HF := Lib.hid hF
    clear hE hF
    rw [h1]
    go_wp2_with (first | refine wpList_load32 rfl _ rfl w.heap.size rfl hA hV.size ?_ | refine wpList_store32 rfl _ _ rfl (w.heap.size + 1) cs rfl rfl hO rfl hV.size hV.one ?_)
    refine ret_c2 rfl (w.heap.size + 1) rfl (hO.setRow cs) hV.size rfl ?_
    exact ⟨cs, by rw [HE.out]; rfl, by rw [HF.out]; exact (hV0.below (bel_setRow (Below.refl w.heap.size _) (by omega) cs) hB).mono (by have := hb0.size; rw [setRow_size]; omega), bel_setRow hb0 (by omega) cs⟩
  rw [Bool.not_eq_true] at h1
  rw [h1]
  go_wp2_with fail
  refine (Class_calls c _).mono ?_; rintro e _ ⟨rfl, rfl⟩
  by_cases h2 : badIn c 8 = true
  · have hE : putErr R t c x = 2 := by unfold putErr; rw [h1, if_neg (by simp), if_pos h2]
    have hF := putAfter_no hE (by decide)
    have HE := Lib.hid hE
    have HF := Lib.hid hF
    clear hE hF
    rw [h2]
    go_wp2_with (first | refine wpList_load32 rfl _ rfl w.heap.size rfl hA hV.size ?_ | refine wpList_store32 rfl _ _ rfl (w.heap.size + 1) cs rfl rfl hO rfl hV.size hV.one ?_)
    refine ret_c2 rfl (w.heap.size + 1) rfl (hO.setRow cs) hV.size rfl ?_
    exact ⟨cs, by rw [HE.out]; rfl, by rw [HF.out]; exact (hV0.below (bel_setRow (Below.refl w.heap.size _) (by omega) cs) hB).mono (by have := hb0.size; rw [setRow_size]; omega), bel_setRow hb0 (by omega) cs⟩
  rw [Bool.not_eq_true] at h2
  rw [h2]
  go_wp2_with fail
  refine (Index_calls x _).mono ?_; rintro e _ ⟨rfl, rfl⟩
  by_cases h3 : badIn x 256 = true
  · have hE : putErr R t c x = 4 := by unfold putErr; rw [h1, if_neg (by simp), h2, if_neg (by simp), if_pos h3]
    have hF := putAfter_no hE (by decide)
    have HE := Lib.hid hE
    have HF := Lib.hid hF
    clear hE hF
    rw [h3]
    go_wp2_with (first | refine wpList_load32 rfl _ rfl w.heap.size rfl hA hV.size ?_ | refine wpList_store32 rfl _ _ rfl (w.heap.size + 1) cs rfl rfl hO rfl hV.size hV.one ?_)
    refine ret_c2 rfl (w.heap.size + 1) rfl (hO.setRow cs) hV.size rfl ?_
    exact ⟨cs, by rw [HE.out]; rfl, by rw [HF.out]; exact (hV0.below (bel_setRow (Below.refl w.heap.size _) (by omega) cs) hB).mono (by have := hb0.size; rw [setRow_size]; omega), bel_setRow hb0 (by omega) cs⟩
  rw [Bool.not_eq_true] at h3
  rw [h3]
  obtain ⟨t0, t1⟩ := badIn_false h1
  obtain ⟨c0, c1⟩ := badIn_false h2
  obtain ⟨tn, rfl⟩ : ∃ n : Nat, t = n := ⟨t.toNat, by omega⟩
  obtain ⟨cn, rfl⟩ : ∃ n : Nat, c = n := ⟨c.toNat, by omega⟩
  have hER : putErr R tn cn x = if (hasT R cn x).isSome = true then 280 else if 8 ≤ ((R (tn * 8 + cn)).length : Int) then 3 else 0 := by
    have hR9 : hasR R cn x = hasT R cn x := by unfold hasR; rw [h2, if_neg (by simp), Int.toNat_natCast]
    unfold putErr; rw [hR9, h1, if_neg (by simp), h2, if_neg (by simp), h3, if_neg (by simp), Int.toNat_natCast, Int.toNat_natCast]
  clear hw0
  go_wp2_with (refine wpList_load32 rfl _ rfl w.heap.size rfl hA hV.size ?_)
  refine (rHas_ok hV0 (Nat.le_trans hB hb0.size) hR cn (by omega) x).mono ?_; rintro e w1 ⟨rfl, k1⟩
  have z0 := hb0.size
  have hb1 := hb0.trans (k1.mono (by omega))
  replace hA := hA.below k1 hA.lt
  replace hO := hO.below k1 hO.lt
  replace hV0 := hV0.below k1 (by omega)
  clear hb0
  have hb0 := hb1
  clear hb1 k1
  cases hT : hasT R cn x with
  | some u =>
    have hE : putErr R tn cn x = 280 := by rw [hER, hT]; rfl
    have hI : hasI R cn x = (u : Int) := by unfold hasI; rw [hT]
    have u0 : (0 : Int) ≤ u := by omega
    have hF := putAfter_no hE (by decide)
    have HE := Lib.hid hE
    have HF := Lib.hid hF
    clear hE hF
    rw [hI]
    clear hI
    go_wp2_with (first | refine wpList_load32 rfl _ rfl w.heap.size rfl hA hV.size ?_ | refine wpList_store32 rfl _ _ rfl (w.heap.size + 1) cs rfl rfl hO rfl hV.size hV.one ?_)
    refine ret_c2 rfl (w.heap.size + 1) rfl (hO.setRow cs) hV.size rfl ?_
    exact ⟨cs, by rw [HE.out]; rfl, by rw [HF.out]; exact (hV0.below (bel_setRow (Below.refl w.heap.size _) (by omega) cs) hB).mono (by have := hb0.size; rw [setRow_size]; omega), bel_setRow hb0 (by omega) cs⟩
  | none =>
  have hI : hasI R cn x = -1 := by unfold hasI; rw [hT]
  rw [hT, if_neg (by simp)] at hER
  rw [hI]
  obtain ⟨l, hl⟩ : ∃ l, R (tn * 8 + cn) = l := ⟨_, rfl⟩
  obtain ⟨la, lc, hg, hr, _⟩ := hV0.row (tn * 8 + cn) (by omega)
  rw [hl] at hg hr hER
  have hlm := hR (tn * 8 + cn)
  rw [hl] at hlm
  have q := hA.cell (tn * 8 + cn) hg
  have HL := Lib.hid hl
  clear hl hI hg
  by_cases h8 : 8 ≤ (l.length : Int)
  · have hE : putErr R tn cn x = 3 := by rw [hER, if_pos h8]
    have hF := putAfter_no hE (by decide)
    have HE := Lib.hid hE
    have HF := Lib.hid hF
    clear hE hF
    go_wp2_with (first | refine wpList_load32 rfl _ rfl w.heap.size rfl hA hV.size ?_ | refine wpList_store32 rfl _ _ rfl (w.heap.size + 1) cs rfl rfl hO rfl hV.size hV.one ?_)
    refine ret_c2 rfl (w.heap.size + 1) rfl (hO.setRow cs) hV.size rfl ?_
    exact ⟨cs, by rw [HE.out]; rfl, by rw [HF.out]; exact (hV0.below (bel_setRow (Below.refl w.heap.size _) (by omega) cs) hB).mono (by have := hb0.size; rw [setRow_size]; omega), bel_setRow hb0 (by omega) cs⟩
  rw [if_neg h8] at hER
  have hF : putAfter R tn cn x = upd R (tn * 8 + cn) (l ++ [x]) := by unfold putAfter; rw [hER, if_pos rfl, Int.toNat_natCast, Int.toNat_natCast, HL.out]
  have HE := Lib.hid hER
  have HF := Lib.hid hF
  clear hER hF
  have HRW := Lib.hid hr
  have z1 := hb0.size
  have z2 : w.heap.size + 1 < w1.heap.size := hO.lt
  clear hr
  go_wp2_with fail
  refine wp_region_held_drew (S := fun _ => True) (by kernel_rfl) trivial (fun hHeld => ?_)
  have kY : Below w1.heap.size w1 w1.drew := (Below.refl _ w1).drew
  change wpAnyH _ _ _ _ _ _ _ _ w1.drew
  generalize w1.drew = Y at kY hHeld ⊢
  refine wpAnyH_take (i := 0) (v := ?_) rfl (by kernel_rfl) (by kernel_rfl) (by kernel_rfl) (fun _ _ _ h => h) (Or.inl ⟨by rfl, ?_⟩) (by assumption) ?_
  rotate_left
  · (intro Y hSw; (try dsimp only at hSw); obtain _ := hSw; go_simp; try with_reducible rfl)
  try simp only [Act.put, List.getElem_toArray, List.getElem_cons_zero, List.getElem_cons_succ, List.setIfInBounds_toArray, List.set_cons_zero, List.set_cons_succ]
  refine wpAnyH_take (i := 1) (v := ?_) rfl (by kernel_rfl) (by kernel_rfl) (by kernel_rfl) (fun _ _ _ h => h) (Or.inl ⟨by rfl, ?_⟩) (by assumption) ?_
  rotate_left
  · (intro Y hSw; (try dsimp only at hSw); obtain _ := hSw; go_simp; try with_reducible rfl)
  try simp only [Act.put, List.getElem_toArray, List.getElem_cons_zero, List.getElem_cons_succ, List.setIfInBounds_toArray, List.set_cons_zero, List.set_cons_succ]
  refine wpAnyH_take (i := 3) (v := ?_) rfl (by kernel_rfl) (by kernel_rfl) (by kernel_rfl) (fun _ _ _ h => h) (Or.inl ⟨by rfl, ?_⟩) (by assumption) ?_
  rotate_left
  · (intro Y hSw; (try dsimp only at hSw); obtain _ := hSw; go_simp; try with_reducible rfl)
  try simp only [Act.put, List.getElem_toArray, List.getElem_cons_zero, List.getElem_cons_succ, List.setIfInBounds_toArray, List.set_cons_zero, List.set_cons_succ]
  refine wpAnyH_take (i := 4) (v := ?_) rfl (by kernel_rfl) (by kernel_rfl) (by kernel_rfl) (fun _ _ _ h => h) (Or.inl ⟨by rfl, ?_⟩) (by assumption) ?_
  rotate_left
  · (intro Y hSw; (try dsimp only at hSw); obtain _ := hSw; go_simp; try with_reducible rfl)
  try simp only [Act.put, List.getElem_toArray, List.getElem_cons_zero, List.getElem_cons_succ, List.setIfInBounds_toArray, List.set_cons_zero, List.set_cons_succ]
  refine wpAnyH_take (i := 5) (v := ?_) rfl (by kernel_rfl) (by kernel_rfl) (by kernel_rfl) (fun _ _ _ h => h) (Or.inl ⟨by rfl, ?_⟩) (by assumption) ?_
  rotate_left
  · (intro Y hSw; (try dsimp only at hSw); obtain _ := hSw; go_simp; try with_reducible rfl)
  try simp only [Act.put, List.getElem_toArray, List.getElem_cons_zero, List.getElem_cons_succ, List.setIfInBounds_toArray, List.set_cons_zero, List.set_cons_succ]
  refine wpAnyH_take (i := 6) (v := ?_) rfl (by kernel_rfl) (by kernel_rfl) (by kernel_rfl) (fun _ _ _ h => h) (Or.inl ⟨by rfl, ?_⟩) (by assumption) ?_
  rotate_left
  · (intro Y hSw; (try dsimp only at hSw); obtain _ := hSw; go_simp; try with_reducible rfl)
  try simp only [Act.put, List.getElem_toArray, List.getElem_cons_zero, List.getElem_cons_succ, List.setIfInBounds_toArray, List.set_cons_zero, List.set_cons_succ]
  refine wpAnyH_take (i := 9) (v := ?_) rfl (by kernel_rfl) (by kernel_rfl) (by kernel_rfl) (fun _ _ _ h => h) (Or.inl ⟨by rfl, ?_⟩) (by assumption) ?_
  rotate_left
  · (intro Y hSw; (try dsimp only at hSw); obtain _ := hSw; go_simp; try with_reducible rfl)
  try simp only [Act.put, List.getElem_toArray, List.getElem_cons_zero, List.getElem_cons_succ, List.setIfInBounds_toArray, List.set_cons_zero, List.set_cons_succ]
  refine wpAnyH_take (i := 12) (v := ?_) rfl (by kernel_rfl) (by kernel_rfl) (by kernel_rfl) (fun _ _ _ h => h) (Or.inl ⟨by rfl, ?_⟩) (by assumption) ?_
  rotate_left
  · (intro Y hSw; (try dsimp only at hSw); obtain _ := hSw; go_simp; try with_reducible rfl)
  try simp only [Act.put, List.getElem_toArray, List.getElem_cons_zero, List.getElem_cons_succ, List.setIfInBounds_toArray, List.set_cons_zero, List.set_cons_succ]
  refine wpAnyH_ready (rs := [2, 7, 10]) (by kernel_rfl) (by simp) ?_
  refine AllReadyH.cons rfl (fun K hK => ?_) (AllReadyH.cons rfl (fun K hK => ?_) (AllReadyH.cons rfl (fun K hK => ?_) AllReadyH.nil))
  · go_simp
    obtain ⟨g, hg⟩ : ∃ g, Y.heap.size = g := ⟨_, rfl⟩
    obtain ⟨Z, hZ⟩ : ∃ Z, Y.alloc (.cells #[] 3) = Z := ⟨_, rfl⟩
    have jz : Below Y.heap.size Y Z := by rw [← hZ]; exact (Below.refl _ Y).alloc (Nat.le_refl _) _
    have ho : Z.ownsRow w1.heap.size 3 1 (.slice (some ⟨g, 0, none⟩) 0 0) 0 [] := by rw [← hZ, ← hg]; exact World.ownsRow_made Y #[] 0 kY.size (by decide) rfl
    rw [hZ, hg]
    replace kY := kY.trans (jz.mono kY.size)
    clear hZ
    refine hK.out _ _ (trivial) (fun hHeld => ?_)
    clear hK K
    try simp only [Act.put, List.getElem_toArray, List.getElem_cons_zero, List.getElem_cons_succ, List.setIfInBounds_toArray, List.set_cons_zero, List.set_cons_succ]
    obtain ⟨Y, rfl⟩ : ∃ Y : World, Y = Z := ⟨_, rfl⟩
    refine wpAnyH_ready (rs := [7, 10]) (by kernel_rfl) (by simp) ?_
    refine AllReadyH.cons rfl (fun K hK => ?_) (AllReadyH.cons rfl (fun K hK => ?_) AllReadyH.nil)
    · go_simp
      have hcv : World.cell? _ ⟨w.heap.size, tn * 8 + cn, none⟩ = some (.slice la l.length lc) := (kY.cell (p := ⟨w.heap.size, tn * 8 + cn, none⟩) hA.lt).trans q
      go_simp
      refine hK.out _ _ (trivial) (fun hHeld => ?_)
      clear hK K
      try simp only [Act.put, List.getElem_toArray, List.getElem_cons_zero, List.getElem_cons_succ, List.setIfInBounds_toArray, List.set_cons_zero, List.set_cons_succ]
      clear hcv
      refine wpAnyH_ready (rs := [8, 10]) (by kernel_rfl) (by simp) ?_
      refine AllReadyH.cons rfl (fun K hK => ?_) (AllReadyH.cons rfl (fun K hK => ?_) AllReadyH.nil)
      · rw [if_pos (by rfl)]
        refine wp_append_any _ _ 35 rfl w1.heap.size Try.underlying35 info64 0 [] rfl ho B l.length (intVals .i64 l) rfl (HRW.out.below kY (by omega)) (by rw [intVals_len]; omega) (intVals_one _ _) (by unfold maxLen; omega) (by omega) kY.size ?_
        intro v2 Z ho2 hg2
        rw [Nat.zero_add, List.nil_append] at ho2
        replace kY := kY.appended ho hg2 (Nat.le_refl _) kY.size
        refine hK.out _ _ (trivial) (fun hHeld => ?_)
        clear hK K
        try simp only [Act.put, List.getElem_toArray, List.getElem_cons_zero, List.getElem_cons_succ, List.setIfInBounds_toArray, List.set_cons_zero, List.set_cons_succ]
        obtain ⟨Y, rfl⟩ : ∃ Y : World, Y = Z := ⟨_, rfl⟩
        refine wpAnyH_ready (rs := [10]) (by kernel_rfl) (by simp) ?_
        refine AllReadyH.cons rfl (fun K hK => ?_) AllReadyH.nil
        go_simp
        obtain ⟨lb, hlb⟩ : ∃ g, Y.heap.size = g := ⟨_, rfl⟩
        obtain ⟨Z, hZ⟩ : ∃ Z, Y.alloc (.cells #[.int .i64 x] 3) = Z := ⟨_, rfl⟩
        have jz : Below Y.heap.size Y Z := by rw [← hZ]; exact (Below.refl _ Y).alloc (Nat.le_refl _) _
        have hx : Blk Z lb #[.int .i64 x] 3 := by rw [← hZ, ← hlb]; exact Blk.new Y _ _
        rw [hZ, hlb]
        replace kY := kY.trans (jz.mono kY.size)
        replace ho2 := owns_below ho2 jz (Nat.le_refl _)
        clear hZ
        refine hK.out _ _ (trivial) (fun hHeld => ?_)
        clear hK K
        try simp only [Act.put, List.getElem_toArray, List.getElem_cons_zero, List.getElem_cons_succ, List.setIfInBounds_toArray, List.set_cons_zero, List.set_cons_succ]
        obtain ⟨Y, rfl⟩ : ∃ Y : World, Y = Z := ⟨_, rfl⟩
        refine wpAnyH_ready (rs := [11]) (by kernel_rfl) (by simp) ?_
        refine AllReadyH.cons rfl (fun K hK => ?_) AllReadyH.nil
        rw [if_pos (by rfl)]
        refine wp_append_rowO _ _ 35 rfl w1.heap.size Try.underlying35 info64 l.length (intVals .i64 l) rfl ho2 (World.heap _).size 1 [.int .i64 x] rfl (rowOf hx) rfl (by intro u hu; rw [List.mem_singleton.1 hu]; rfl) (by unfold maxLen; omega) (by omega) kY.size ?_
        intro v3 Z ho3 hg3
        replace kY := kY.appended ho2 hg3 (Nat.le_refl _) kY.size
        obtain ⟨a3, c3, rfl, _⟩ := (RowAt.of_owns ho3 (Nat.le_refl _)).len
        refine hK.out _ _ (trivial) (fun hHeld => ?_)
        clear hK K
        try simp only [Act.put, List.getElem_toArray, List.getElem_cons_zero, List.getElem_cons_succ, List.setIfInBounds_toArray, List.set_cons_zero, List.set_cons_succ]
        refine wpAnyH_take (i := 13) (v := ?_) rfl (by kernel_rfl) (by kernel_rfl) (by kernel_rfl) (fun _ _ _ h => h) (Or.inl ⟨by rfl, ?_⟩) (by assumption) ?_
        rotate_left
        · (intro Y hSw; (try dsimp only at hSw); obtain _ := hSw; go_simp; try with_reducible rfl)
        try simp only [Act.put, List.getElem_toArray, List.getElem_cons_zero, List.getElem_cons_succ, List.setIfInBounds_toArray, List.set_cons_zero, List.set_cons_succ]
        refine wpAnyH_ready (rs := [14]) (by kernel_rfl) (by simp) ?_
        refine AllReadyH.cons rfl (fun K hK => ?_) AllReadyH.nil
        go_simp
        have hA3 := hA.below kY hA.lt
        have hO3 := (hO.below kY hO.lt).setOther ⟨w.heap.size, tn * 8 + cn, none⟩ (.slice a3 (l.length + 1) c3) (by show w.heap.size + 1 ≠ w.heap.size; omega)
        have hcw : Z.cell? ⟨w.heap.size, tn * 8 + cn, none⟩ = some (.slice la l.length lc) := (kY.cell (p := ⟨w.heap.size, tn * 8 + cn, none⟩) hA.lt).trans q
        have hfw : Z.frozen? ⟨w.heap.size, tn * 8 + cn, none⟩ = false := hA3.frozen _
        have hA4 := hA3.set (tn * 8 + cn) (.slice a3 (l.length + 1) c3)
        have hrow3 : RowAt Z.heap.size Z (.slice a3 (l.length + 1) c3) (l.length + 1) (intVals .i64 (l ++ [x])) := by rw [show intVals .i64 (l ++ [x]) = intVals .i64 l ++ [.int .i64 x] by simp [intVals]]; exact RowAt.of_owns ho3 (Nat.le_refl _)
        have hV3 := ((hV0.below kY (by omega)).mono (by have := kY.size; omega)).set (tn * 8 + cn) (by omega) (l ++ [x]) (by simp) hrow3 (owns_plain ho3)
        have HV3 := Lib.hid hV3
        have HO3 := Lib.hid hO3
        have HA4 := Lib.hid hA4
        have HO9 := Lib.hid ho3
        clear ho3 hg3 hA3 hO3 hA4 hrow3 hV3
        go_simp
        refine hK.out _ _ (trivial) (fun hHeld => ?_)
        clear hK K
        try simp only [Act.put, List.getElem_toArray, List.getElem_cons_zero, List.getElem_cons_succ, List.setIfInBounds_toArray, List.set_cons_zero, List.set_cons_succ]
        refine wpAnyH_done (by kernel_rfl) ?_ _
        go_wp2_with (first | refine wpList_load32 rfl _ rfl w.heap.size rfl HA4.out HV3.out.size ?_ | refine wpList_store32 rfl _ _ rfl (w.heap.size + 1) _ rfl rfl HO3.out rfl HV3.out.size HV3.out.one ?_)
        refine ret_c2 rfl (w.heap.size + 1) rfl (HO3.out.setRow _) HV3.out.size rfl ?_
        have k4 := bel_setRow (g := w.heap.size + 1) ((hb0.trans (kY.mono (by omega))).setCell (p := ⟨w.heap.size, tn * 8 + cn, none⟩) (Nat.le_refl _) (.slice a3 (l.length + 1) c3)) (by omega) (cs.setIfInBounds (tn * 8 + cn) (.slice a3 (l.length + 1) c3))
        have ho4 := ((Chg.refl (w.heap.size + 1) _).setRow (cs.setIfInBounds (tn * 8 + cn) (.slice a3 (l.length + 1) c3))).owns (((Chg.refl w.heap.size Z).setc ⟨w.heap.size, tn * 8 + cn, none⟩ (.slice a3 (l.length + 1) c3) rfl).owns HO9.out (by omega)) (by omega)
        exact ⟨_, by rw [HE.out]; rfl, by rw [HF.out]; exact ((hV.below k4 hB).mono (by have := k4.size; omega)).set (tn * 8 + cn) (by omega) (l ++ [x]) (by simp) (by rw [show intVals .i64 (l ++ [x]) = intVals .i64 l ++ [.int .i64 x] by simp [intVals]]; exact RowAt.of_owns ho4 (Nat.le_refl _)) (owns_plain ho4), k4⟩
      · go_simp
        obtain ⟨lb, hlb⟩ : ∃ g, Y.heap.size = g := ⟨_, rfl⟩
        obtain ⟨Z, hZ⟩ : ∃ Z, Y.alloc (.cells #[.int .i64 x] 3) = Z := ⟨_, rfl⟩
        have jz : Below Y.heap.size Y Z := by rw [← hZ]; exact (Below.refl _ Y).alloc (Nat.le_refl _) _
        have hx : Blk Z lb #[.int .i64 x] 3 := by rw [← hZ, ← hlb]; exact Blk.new Y _ _
        rw [hZ, hlb]
        replace kY := kY.trans (jz.mono kY.size)
        have hne : lb ≠ g := by have := (owns_block ho g rfl).2; omega
        replace ho := owns_below ho jz (Nat.le_refl _)
        clear hZ
        refine hK.out _ _ (trivial) (fun hHeld => ?_)
        clear hK K
        try simp only [Act.put, List.getElem_toArray, List.getElem_cons_zero, List.getElem_cons_succ, List.setIfInBounds_toArray, List.set_cons_zero, List.set_cons_succ]
        obtain ⟨Y, rfl⟩ : ∃ Y : World, Y = Z := ⟨_, rfl⟩
        refine wpAnyH_ready (rs := [8]) (by kernel_rfl) (by simp) ?_
        refine AllReadyH.cons rfl (fun K hK => ?_) AllReadyH.nil
        rw [if_pos (by rfl)]
        refine wp_append_any _ _ 35 rfl w1.heap.size Try.underlying35 info64 0 [] rfl ho B l.length (intVals .i64 l) rfl (HRW.out.below kY (by omega)) (by rw [intVals_len]; omega) (intVals_one _ _) (by unfold maxLen; omega) (by omega) kY.size ?_
        intro v2 Z ho2 hg2
        rw [Nat.zero_add, List.nil_append] at ho2
        replace kY := kY.appended ho hg2 (Nat.le_refl _) kY.size
        replace hx : Blk Z lb #[.int .i64 x] 3 := (hg2.block lb hx.lt (fun e => hne (by cases e; rfl))).trans hx
        refine hK.out _ _ (trivial) (fun hHeld => ?_)
        clear hK K
        try simp only [Act.put, List.getElem_toArray, List.getElem_cons_zero, List.getElem_cons_succ, List.setIfInBounds_toArray, List.set_cons_zero, List.set_cons_succ]
        obtain ⟨Y, rfl⟩ : ∃ Y : World, Y = Z := ⟨_, rfl⟩
        refine wpAnyH_ready (rs := [11]) (by kernel_rfl) (by simp) ?_
        refine AllReadyH.cons rfl (fun K hK => ?_) AllReadyH.nil
        rw [if_pos (by rfl)]
        refine wp_append_rowO _ _ 35 rfl w1.heap.size Try.underlying35 info64 l.length (intVals .i64 l) rfl ho2 (World.heap _).size 1 [.int .i64 x] rfl (rowOf hx) rfl (by intro u hu; rw [List.mem_singleton.1 hu]; rfl) (by unfold maxLen; omega) (by omega) kY.size ?_
        intro v3 Z ho3 hg3
        replace kY := kY.appended ho2 hg3 (Nat.le_refl _) kY.size
        obtain ⟨a3, c3, rfl, _⟩ := (RowAt.of_owns ho3 (Nat.le_refl _)).len
        refine hK.out _ _ (trivial) (fun hHeld => ?_)
        clear hK K
        try simp only [Act.put, List.getElem_toArray, List.getElem_cons_zero, List.getElem_cons_succ, List.setIfInBounds_toArray, List.set_cons_zero, List.set_cons_succ]
        refine wpAnyH_take (i := 13) (v := ?_) rfl (by kernel_rfl) (by kernel_rfl) (by kernel_rfl) (fun _ _ _ h => h) (Or.inl ⟨by rfl, ?_⟩) (by assumption) ?_
        rotate_left
        · (intro Y hSw; (try dsimp only at hSw); obtain _ := hSw; go_simp; try with_reducible rfl)
        try simp only [Act.put, List.getElem_toArray, List.getElem_cons_zero, List.getElem_cons_succ, List.setIfInBounds_toArray, List.set_cons_zero, List.set_cons_succ]
        refine wpAnyH_ready (rs := [14]) (by kernel_rfl) (by simp) ?_
        refine AllReadyH.cons rfl (fun K hK => ?_) AllReadyH.nil
        go_simp
        have hA3 := hA.below kY hA.lt
        have hO3 := (hO.below kY hO.lt).setOther ⟨w.heap.size, tn * 8 + cn, none⟩ (.slice a3 (l.length + 1) c3) (by show w.heap.size + 1 ≠ w.heap.size; omega)
        have hcw : Z.cell? ⟨w.heap.size, tn * 8 + cn, none⟩ = some (.slice la l.length lc) := (kY.cell (p := ⟨w.heap.size, tn * 8 + cn, none⟩) hA.lt).trans q
        have hfw : Z.frozen? ⟨w.heap.size, tn * 8 + cn, none⟩ = false := hA3.frozen _
        have hA4 := hA3.set (tn * 8 + cn) (.slice a3 (l.length + 1) c3)
        have hrow3 : RowAt Z.heap.size Z (.slice a3 (l.length + 1) c3) (l.length + 1) (intVals .i64 (l ++ [x])) := by rw [show intVals .i64 (l ++ [x]) = intVals .i64 l ++ [.int .i64 x] by simp [intVals]]; exact RowAt.of_owns ho3 (Nat.le_refl _)
        have hV3 := ((hV0.below kY (by omega)).mono (by have := kY.size; omega)).set (tn * 8 + cn) (by omega) (l ++ [x]) (by simp) hrow3 (owns_plain ho3)
        have HV3 := Lib.hid hV3
        have HO3 := Lib.hid hO3
        have HA4 := Lib.hid hA4
        have HO9 := Lib.hid ho3
        clear ho3 hg3 hA3 hO3 hA4 hrow3 hV3
        go_simp
        refine hK.out _ _ (trivial) (fun hHeld => ?_)
        clear hK K
        try simp only [Act.put, List.getElem_toArray, List.getElem_cons_zero, List.getElem_cons_succ, List.setIfInBounds_toArray, List.set_cons_zero, List.set_cons_succ]
        refine wpAnyH_done (by kernel_rfl) ?_ _
        go_wp2_with (first | refine wpList_load32 rfl _ rfl w.heap.size rfl HA4.out HV3.out.size ?_ | refine wpList_store32 rfl _ _ rfl (w.heap.size + 1) _ rfl rfl HO3.out rfl HV3.out.size HV3.out.one ?_)
        refine ret_c2 rfl (w.heap.size + 1) rfl (HO3.out.setRow _) HV3.out.size rfl ?_
        have k4 := bel_setRow (g := w.heap.size + 1) ((hb0.trans (kY.mono (by omega))).setCell (p := ⟨w.heap.size, tn * 8 + cn, none⟩) (Nat.le_refl _) (.slice a3 (l.length + 1) c3)) (by omega) (cs.setIfInBounds (tn * 8 + cn) (.slice a3 (l.length + 1) c3))
        have ho4 := ((Chg.refl (w.heap.size + 1) _).setRow (cs.setIfInBounds (tn * 8 + cn) (.slice a3 (l.length + 1) c3))).owns (((Chg.refl w.heap.size Z).setc ⟨w.heap.size, tn * 8 + cn, none⟩ (.slice a3 (l.length + 1) c3) rfl).owns HO9.out (by omega)) (by omega)
        exact ⟨_, by rw [HE.out]; rfl, by rw [HF.out]; exact ((hV.below k4 hB).mono (by have := k4.size; omega)).set (tn * 8 + cn) (by omega) (l ++ [x]) (by simp) (by rw [show intVals .i64 (l ++ [x]) = intVals .i64 l ++ [.int .i64 x] by simp [intVals]]; exact RowAt.of_owns ho4 (Nat.le_refl _)) (owns_plain ho4), k4⟩
    · go_simp
      obtain ⟨lb, hlb⟩ : ∃ g, Y.heap.size = g := ⟨_, rfl⟩
      obtain ⟨Z, hZ⟩ : ∃ Z, Y.alloc (.cells #[.int .i64 x] 3) = Z := ⟨_, rfl⟩
      have jz : Below Y.heap.size Y Z := by rw [← hZ]; exact (Below.refl _ Y).alloc (Nat.le_refl _) _
      have hx : Blk Z lb #[.int .i64 x] 3 := by rw [← hZ, ← hlb]; exact Blk.new Y _ _
      rw [hZ, hlb]
      replace kY := kY.trans (jz.mono kY.size)
      have hne : lb ≠ g := by have := (owns_block ho g rfl).2; omega
      replace ho := owns_below ho jz (Nat.le_refl _)
      clear hZ
      refine hK.out _ _ (trivial) (fun hHeld => ?_)
      clear hK K
      try simp only [Act.put, List.getElem_toArray, List.getElem_cons_zero, List.getElem_cons_succ, List.setIfInBounds_toArray, List.set_cons_zero, List.set_cons_succ]
      obtain ⟨Y, rfl⟩ : ∃ Y : World, Y = Z := ⟨_, rfl⟩
      refine wpAnyH_ready (rs := [7]) (by kernel_rfl) (by simp) ?_
      refine AllReadyH.cons rfl (fun K hK => ?_) AllReadyH.nil
      go_simp
      have hcv : World.cell? _ ⟨w.heap.size, tn * 8 + cn, none⟩ = some (.slice la l.length lc) := (kY.cell (p := ⟨w.heap.size, tn * 8 + cn, none⟩) hA.lt).trans q
      go_simp
      refine hK.out _ _ (trivial) (fun hHeld => ?_)
      clear hK K
      try simp only [Act.put, List.getElem_toArray, List.getElem_cons_zero, List.getElem_cons_succ, List.setIfInBounds_toArray, List.set_cons_zero, List.set_cons_succ]
      clear hcv
      refine wpAnyH_ready (rs := [8]) (by kernel_rfl) (by simp) ?_
      refine AllReadyH.cons rfl (fun K hK => ?_) AllReadyH.nil
      rw [if_pos (by rfl)]
      refine wp_append_any _ _ 35 rfl w1.heap.size Try.underlying35 info64 0 [] rfl ho B l.length (intVals .i64 l) rfl (HRW.out.below kY (by omega)) (by rw [intVals_len]; omega) (intVals_one _ _) (by unfold maxLen; omega) (by omega) kY.size ?_
      intro v2 Z ho2 hg2
      rw [Nat.zero_add, List.nil_append] at ho2
      replace kY := kY.appended ho hg2 (Nat.le_refl _) kY.size
      replace hx : Blk Z lb #[.int .i64 x] 3 := (hg2.block lb hx.lt (fun e => hne (by cases e; rfl))).trans hx
      refine hK.out _ _ (trivial) (fun hHeld => ?_)
      clear hK K
      try simp only [Act.put, List.getElem_toArray, List.getElem_cons_zero, List.getElem_cons_succ, List.setIfInBounds_toArray, List.set_cons_zero, List.set_cons_succ]
      obtain ⟨Y, rfl⟩ : ∃ Y : World, Y = Z := ⟨_, rfl⟩
      refine wpAnyH_ready (rs := [11]) (by kernel_rfl) (by simp) ?_
      refine AllReadyH.cons rfl (fun K hK => ?_) AllReadyH.nil
      rw [if_pos (by rfl)]
      refine wp_append_rowO _ _ 35 rfl w1.heap.size Try.underlying35 info64 l.length (intVals .i64 l) rfl ho2 (World.heap _).size 1 [.int .i64 x] rfl (rowOf hx) rfl (by intro u hu; rw [List.mem_singleton.1 hu]; rfl) (by unfold maxLen; omega) (by omega) kY.size ?_
      intro v3 Z ho3 hg3
      replace kY := kY.appended ho2 hg3 (Nat.le_refl _) kY.size
      obtain ⟨a3, c3, rfl, _⟩ := (RowAt.of_owns ho3 (Nat.le_refl _)).len
      refine hK.out _ _ (trivial) (fun hHeld => ?_)
      clear hK K
      try simp only [Act.put, List.getElem_toArray, List.getElem_cons_zero, List.getElem_cons_succ, List.setIfInBounds_toArray, List.set_cons_zero, List.set_cons_succ]
      refine wpAnyH_take (i := 13) (v := ?_) rfl (by kernel_rfl) (by kernel_rfl) (by kernel_rfl) (fun _ _ _ h => h) (Or.inl ⟨by rfl, ?_⟩) (by assumption) ?_
      rotate_left
      · (intro Y hSw; (try dsimp only at hSw); obtain _ := hSw; go_simp; try with_reducible rfl)
      try simp only [Act.put, List.getElem_toArray, List.getElem_cons_zero, List.getElem_cons_succ, List.setIfInBounds_toArray, List.set_cons_zero, List.set_cons_succ]
      refine wpAnyH_ready (rs := [14]) (by kernel_rfl) (by simp) ?_
      refine AllReadyH.cons rfl (fun K hK => ?_) AllReadyH.nil
      go_simp
      have hA3 := hA.below kY hA.lt
      have hO3 := (hO.below kY hO.lt).setOther ⟨w.heap.size, tn * 8 + cn, none⟩ (.slice a3 (l.length + 1) c3) (by show w.heap.size + 1 ≠ w.heap.size; omega)
      have hcw : Z.cell? ⟨w.heap.size, tn * 8 + cn, none⟩ = some (.slice la l.length lc) := (kY.cell (p := ⟨w.heap.size, tn * 8 + cn, none⟩) hA.lt).trans q
      have hfw : Z.frozen? ⟨w.heap.size, tn * 8 + cn, none⟩ = false := hA3.frozen _
      have hA4 := hA3.set (tn * 8 + cn) (.slice a3 (l.length + 1) c3)
      have hrow3 : RowAt Z.heap.size Z (.slice a3 (l.length + 1) c3) (l.length + 1) (intVals .i64 (l ++ [x])) := by rw [show intVals .i64 (l ++ [x]) = intVals .i64 l ++ [.int .i64 x] by simp [intVals]]; exact RowAt.of_owns ho3 (Nat.le_refl _)
      have hV3 := ((hV0.below kY (by omega)).mono (by have := kY.size; omega)).set (tn * 8 + cn) (by omega) (l ++ [x]) (by simp) hrow3 (owns_plain ho3)
      have HV3 := Lib.hid hV3
      have HO3 := Lib.hid hO3
      have HA4 := Lib.hid hA4
      have HO9 := Lib.hid ho3
      clear ho3 hg3 hA3 hO3 hA4 hrow3 hV3
      go_simp
      refine hK.out _ _ (trivial) (fun hHeld => ?_)
      clear hK K
      try simp only [Act.put, List.getElem_toArray, List.getElem_cons_zero, List.getElem_cons_succ, List.setIfInBounds_toArray, List.set_cons_zero, List.set_cons_succ]
      refine wpAnyH_done (by kernel_rfl) ?_ _
      go_wp2_with (first | refine wpList_load32 rfl _ rfl w.heap.size rfl HA4.out HV3.out.size ?_ | refine wpList_store32 rfl _ _ rfl (w.heap.size + 1) _ rfl rfl HO3.out rfl HV3.out.size HV3.out.one ?_)
      refine ret_c2 rfl (w.heap.size + 1) rfl (HO3.out.setRow _) HV3.out.size rfl ?_
      have k4 := bel_setRow (g := w.heap.size + 1) ((hb0.trans (kY.mono (by omega))).setCell (p := ⟨w.heap.size, tn * 8 + cn, none⟩) (Nat.le_refl _) (.slice a3 (l.length + 1) c3)) (by omega) (cs.setIfInBounds (tn * 8 + cn) (.slice a3 (l.length + 1) c3))
      have ho4 := ((Chg.refl (w.heap.size + 1) _).setRow (cs.setIfInBounds (tn * 8 + cn) (.slice a3 (l.length + 1) c3))).owns (((Chg.refl w.heap.size Z).setc ⟨w.heap.size, tn * 8 + cn, none⟩ (.slice a3 (l.length + 1) c3) rfl).owns HO9.out (by omega)) (by omega)
      exact ⟨_, by rw [HE.out]; rfl, by rw [HF.out]; exact ((hV.below k4 hB).mono (by have := k4.size; omega)).set (tn * 8 + cn) (by omega) (l ++ [x]) (by simp) (by rw [show intVals .i64 (l ++ [x]) = intVals .i64 l ++ [.int .i64 x] by simp [intVals]]; exact RowAt.of_owns ho4 (Nat.le_refl _)) (owns_plain ho4), k4⟩
  · go_simp
    have hcv : World.cell? _ ⟨w.heap.size, tn * 8 + cn, none⟩ = some (.slice la l.length lc) := (kY.cell (p := ⟨w.heap.size, tn * 8 + cn, none⟩) hA.lt).trans q
    go_simp
    refine hK.out _ _ (trivial) (fun hHeld => ?_)
    clear hK K
    try simp only [Act.put, List.getElem_toArray, List.getElem_cons_zero, List.getElem_cons_succ, List.setIfInBounds_toArray, List.set_cons_zero, List.set_cons_succ]
    clear hcv
    refine wpAnyH_ready (rs := [2, 10]) (by kernel_rfl) (by simp) ?_
    refine AllReadyH.cons rfl (fun K hK => ?_) (AllReadyH.cons rfl (fun K hK => ?_) AllReadyH.nil)
    · go_simp
      obtain ⟨g, hg⟩ : ∃ g, Y.heap.size = g := ⟨_, rfl⟩
      obtain ⟨Z, hZ⟩ : ∃ Z, Y.alloc (.cells #[] 3) = Z := ⟨_, rfl⟩
      have jz : Below Y.heap.size Y Z := by rw [← hZ]; exact (Below.refl _ Y).alloc (Nat.le_refl _) _
      have ho : Z.ownsRow w1.heap.size 3 1 (.slice (some ⟨g, 0, none⟩) 0 0) 0 [] := by rw [← hZ, ← hg]; exact World.ownsRow_made Y #[] 0 kY.size (by decide) rfl
      rw [hZ, hg]
      replace kY := kY.trans (jz.mono kY.size)
      clear hZ
      refine hK.out _ _ (trivial) (fun hHeld => ?_)
      clear hK K
      try simp only [Act.put, List.getElem_toArray, List.getElem_cons_zero, List.getElem_cons_succ, List.setIfInBounds_toArray, List.set_cons_zero, List.set_cons_succ]
      obtain ⟨Y, rfl⟩ : ∃ Y : World, Y = Z := ⟨_, rfl⟩
      refine wpAnyH_ready (rs := [8, 10]) (by kernel_rfl) (by simp) ?_
      refine AllReadyH.cons rfl (fun K hK => ?_) (AllReadyH.cons rfl (fun K hK => ?_) AllReadyH.nil)
      · rw [if_pos (by rfl)]
        refine wp_append_any _ _ 35 rfl w1.heap.size Try.underlying35 info64 0 [] rfl ho B l.length (intVals .i64 l) rfl (HRW.out.below kY (by omega)) (by rw [intVals_len]; omega) (intVals_one _ _) (by unfold maxLen; omega) (by omega) kY.size ?_
        intro v2 Z ho2 hg2
        rw [Nat.zero_add, List.nil_append] at ho2
        replace kY := kY.appended ho hg2 (Nat.le_refl _) kY.size
        refine hK.out _ _ (trivial) (fun hHeld => ?_)
        clear hK K
        try simp only [Act.put, List.getElem_toArray, List.getElem_cons_zero, List.getElem_cons_succ, List.setIfInBounds_toArray, List.set_cons_zero, List.set_cons_succ]
        obtain ⟨Y, rfl⟩ : ∃ Y : World, Y = Z := ⟨_, rfl⟩
        refine wpAnyH_ready (rs := [10]) (by kernel_rfl) (by simp) ?_
        refine AllReadyH.cons rfl (fun K hK => ?_) AllReadyH.nil
        go_simp
        obtain ⟨lb, hlb⟩ : ∃ g, Y.heap.size = g := ⟨_, rfl⟩
        obtain ⟨Z, hZ⟩ : ∃ Z, Y.alloc (.cells #[.int .i64 x] 3) = Z := ⟨_, rfl⟩
        have jz : Below Y.heap.size Y Z := by rw [← hZ]; exact (Below.refl _ Y).alloc (Nat.le_refl _) _
        have hx : Blk Z lb #[.int .i64 x] 3 := by rw [← hZ, ← hlb]; exact Blk.new Y _ _
        rw [hZ, hlb]
        replace kY := kY.trans (jz.mono kY.size)
        replace ho2 := owns_below ho2 jz (Nat.le_refl _)
        clear hZ
        refine hK.out _ _ (trivial) (fun hHeld => ?_)
        clear hK K
        try simp only [Act.put, List.getElem_toArray, List.getElem_cons_zero, List.getElem_cons_succ, List.setIfInBounds_toArray, List.set_cons_zero, List.set_cons_succ]
        obtain ⟨Y, rfl⟩ : ∃ Y : World, Y = Z := ⟨_, rfl⟩
        refine wpAnyH_ready (rs := [11]) (by kernel_rfl) (by simp) ?_
        refine AllReadyH.cons rfl (fun K hK => ?_) AllReadyH.nil
        rw [if_pos (by rfl)]
        refine wp_append_rowO _ _ 35 rfl w1.heap.size Try.underlying35 info64 l.length (intVals .i64 l) rfl ho2 (World.heap _).size 1 [.int .i64 x] rfl (rowOf hx) rfl (by intro u hu; rw [List.mem_singleton.1 hu]; rfl) (by unfold maxLen; omega) (by omega) kY.size ?_
        intro v3 Z ho3 hg3
        replace kY := kY.appended ho2 hg3 (Nat.le_refl _) kY.size
        obtain ⟨a3, c3, rfl, _⟩ := (RowAt.of_owns ho3 (Nat.le_refl _)).len
        refine hK.out _ _ (trivial) (fun hHeld => ?_)
        clear hK K
        try simp only [Act.put, List.getElem_toArray, List.getElem_cons_zero, List.getElem_cons_succ, List.setIfInBounds_toArray, List.set_cons_zero, List.set_cons_succ]
        refine wpAnyH_take (i := 13) (v := ?_) rfl (by kernel_rfl) (by kernel_rfl) (by kernel_rfl) (fun _ _ _ h => h) (Or.inl ⟨by rfl, ?_⟩) (by assumption) ?_
        rotate_left
        · (intro Y hSw; (try dsimp only at hSw); obtain _ := hSw; go_simp; try with_reducible rfl)
        try simp only [Act.put, List.getElem_toArray, List.getElem_cons_zero, List.getElem_cons_succ, List.setIfInBounds_toArray, List.set_cons_zero, List.set_cons_succ]
        refine wpAnyH_ready (rs := [14]) (by kernel_rfl) (by simp) ?_
        refine AllReadyH.cons rfl (fun K hK => ?_) AllReadyH.nil
        go_simp
        have hA3 := hA.below kY hA.lt
        have hO3 := (hO.below kY hO.lt).setOther ⟨w.heap.size, tn * 8 + cn, none⟩ (.slice a3 (l.length + 1) c3) (by show w.heap.size + 1 ≠ w.heap.size; omega)
        have hcw : Z.cell? ⟨w.heap.size, tn * 8 + cn, none⟩ = some (.slice la l.length lc) := (kY.cell (p := ⟨w.heap.size, tn * 8 + cn, none⟩) hA.lt).trans q
        have hfw : Z.frozen? ⟨w.heap.size, tn * 8 + cn, none⟩ = false := hA3.frozen _
        have hA4 := hA3.set (tn * 8 + cn) (.slice a3 (l.length + 1) c3)
        have hrow3 : RowAt Z.heap.size Z (.slice a3 (l.length + 1) c3) (l.length + 1) (intVals .i64 (l ++ [x])) := by rw [show intVals .i64 (l ++ [x]) = intVals .i64 l ++ [.int .i64 x] by simp [intVals]]; exact RowAt.of_owns ho3 (Nat.le_refl _)
        have hV3 := ((hV0.below kY (by omega)).mono (by have := kY.size; omega)).set (tn * 8 + cn) (by omega) (l ++ [x]) (by simp) hrow3 (owns_plain ho3)
        have HV3 := Lib.hid hV3
        have HO3 := Lib.hid hO3
        have HA4 := Lib.hid hA4
        have HO9 := Lib.hid ho3
        clear ho3 hg3 hA3 hO3 hA4 hrow3 hV3
        go_simp
        refine hK.out _ _ (trivial) (fun hHeld => ?_)
        clear hK K
        try simp only [Act.put, List.getElem_toArray, List.getElem_cons_zero, List.getElem_cons_succ, List.setIfInBounds_toArray, List.set_cons_zero, List.set_cons_succ]
        refine wpAnyH_done (by kernel_rfl) ?_ _
        go_wp2_with (first | refine wpList_load32 rfl _ rfl w.heap.size rfl HA4.out HV3.out.size ?_ | refine wpList_store32 rfl _ _ rfl (w.heap.size + 1) _ rfl rfl HO3.out rfl HV3.out.size HV3.out.one ?_)
        refine ret_c2 rfl (w.heap.size + 1) rfl (HO3.out.setRow _) HV3.out.size rfl ?_
        have k4 := bel_setRow (g := w.heap.size + 1) ((hb0.trans (kY.mono (by omega))).setCell (p := ⟨w.heap.size, tn * 8 + cn, none⟩) (Nat.le_refl _) (.slice a3 (l.length + 1) c3)) (by omega) (cs.setIfInBounds (tn * 8 + cn) (.slice a3 (l.length + 1) c3))
        have ho4 := ((Chg.refl (w.heap.size + 1) _).setRow (cs.setIfInBounds (tn * 8 + cn) (.slice a3 (l.length + 1) c3))).owns (((Chg.refl w.heap.size Z).setc ⟨w.heap.size, tn * 8 + cn, none⟩ (.slice a3 (l.length + 1) c3) rfl).owns HO9.out (by omega)) (by omega)
        exact ⟨_, by rw [HE.out]; rfl, by rw [HF.out]; exact ((hV.below k4 hB).mono (by have := k4.size; omega)).set (tn * 8 + cn) (by omega) (l ++ [x]) (by simp) (by rw [show intVals .i64 (l ++ [x]) = intVals .i64 l ++ [.int .i64 x] by simp [intVals]]; exact RowAt.of_owns ho4 (Nat.le_refl _)) (owns_plain ho4), k4⟩
      · go_simp
        obtain ⟨lb, hlb⟩ : ∃ g, Y.heap.size = g := ⟨_, rfl⟩
        obtain ⟨Z, hZ⟩ : ∃ Z, Y.alloc (.cells #[.int .i64 x] 3) = Z := ⟨_, rfl⟩
        have jz : Below Y.heap.size Y Z := by rw [← hZ]; exact (Below.refl _ Y).alloc (Nat.le_refl _) _
        have hx : Blk Z lb #[.int .i64 x] 3 := by rw [← hZ, ← hlb]; exact Blk.new Y _ _
        rw [hZ, hlb]
        replace kY := kY.trans (jz.mono kY.size)
        have hne : lb ≠ g := by have := (owns_block ho g rfl).2; omega
        replace ho := owns_below ho jz (Nat.le_refl _)
        clear hZ
        refine hK.out _ _ (trivial) (fun hHeld => ?_)
        clear hK K
        try simp only [Act.put, List.getElem_toArray, List.getElem_cons_zero, List.getElem_cons_succ, List.setIfInBounds_toArray, List.set_cons_zero, List.set_cons_succ]
        obtain ⟨Y, rfl⟩ : ∃ Y : World, Y = Z := ⟨_, rfl⟩
        refine wpAnyH_ready (rs := [8]) (by kernel_rfl) (by simp) ?_
        refine AllReadyH.cons rfl (fun K hK => ?_) AllReadyH.nil
        rw [if_pos (by rfl)]
        refine wp_append_any _ _ 35 rfl w1.heap.size Try.underlying35 info64 0 [] rfl ho B l.length (intVals .i64 l) rfl (HRW.out.below kY (by omega)) (by rw [intVals_len]; omega) (intVals_one _ _) (by unfold maxLen; omega) (by omega) kY.size ?_
        intro v2 Z ho2 hg2
        rw [Nat.zero_add, List.nil_append] at ho2
        replace kY := kY.appended ho hg2 (Nat.le_refl _) kY.size
        replace hx : Blk Z lb #[.int .i64 x] 3 := (hg2.block lb hx.lt (fun e => hne (by cases e; rfl))).trans hx
        refine hK.out _ _ (trivial) (fun hHeld => ?_)
        clear hK K
        try simp only [Act.put, List.getElem_toArray, List.getElem_cons_zero, List.getElem_cons_succ, List.setIfInBounds_toArray, List.set_cons_zero, List.set_cons_succ]
        obtain ⟨Y, rfl⟩ : ∃ Y : World, Y = Z := ⟨_, rfl⟩
        refine wpAnyH_ready (rs := [11]) (by kernel_rfl) (by simp) ?_
        refine AllReadyH.cons rfl (fun K hK => ?_) AllReadyH.nil
        rw [if_pos (by rfl)]
        refine wp_append_rowO _ _ 35 rfl w1.heap.size Try.underlying35 info64 l.length (intVals .i64 l) rfl ho2 (World.heap _).size 1 [.int .i64 x] rfl (rowOf hx) rfl (by intro u hu; rw [List.mem_singleton.1 hu]; rfl) (by unfold maxLen; omega) (by omega) kY.size ?_
        intro v3 Z ho3 hg3
        replace kY := kY.appended ho2 hg3 (Nat.le_refl _) kY.size
        obtain ⟨a3, c3, rfl, _⟩ := (RowAt.of_owns ho3 (Nat.le_refl _)).len
        refine hK.out _ _ (trivial) (fun hHeld => ?_)
        clear hK K
        try simp only [Act.put, List.getElem_toArray, List.getElem_cons_zero, List.getElem_cons_succ, List.setIfInBounds_toArray, List.set_cons_zero, List.set_cons_succ]
        refine wpAnyH_take (i := 13) (v := ?_) rfl (by kernel_rfl) (by kernel_rfl) (by kernel_rfl) (fun _ _ _ h => h) (Or.inl ⟨by rfl, ?_⟩) (by assumption) ?_
        rotate_left
        · (intro Y hSw; (try dsimp only at hSw); obtain _ := hSw; go_simp; try with_reducible rfl)
        try simp only [Act.put, List.getElem_toArray, List.getElem_cons_zero, List.getElem_cons_succ, List.setIfInBounds_toArray, List.set_cons_zero, List.set_cons_succ]
        refine wpAnyH_ready (rs := [14]) (by kernel_rfl) (by simp) ?_
        refine AllReadyH.cons rfl (fun K hK => ?_) AllReadyH.nil
        go_simp
        have hA3 := hA.below kY hA.lt
        have hO3 := (hO.below kY hO.lt).setOther ⟨w.heap.size, tn * 8 + cn, none⟩ (.slice a3 (l.length + 1) c3) (by show w.heap.size + 1 ≠ w.heap.size; omega)
        have hcw : Z.cell? ⟨w.heap.size, tn * 8 + cn, none⟩ = some (.slice la l.length lc) := (kY.cell (p := ⟨w.heap.size, tn * 8 + cn, none⟩) hA.lt).trans q
        have hfw : Z.frozen? ⟨w.heap.size, tn * 8 + cn, none⟩ = false := hA3.frozen _
        have hA4 := hA3.set (tn * 8 + cn) (.slice a3 (l.length + 1) c3)
        have hrow3 : RowAt Z.heap.size Z (.slice a3 (l.length + 1) c3) (l.length + 1) (intVals .i64 (l ++ [x])) := by rw [show intVals .i64 (l ++ [x]) = intVals .i64 l ++ [.int .i64 x] by simp [intVals]]; exact RowAt.of_owns ho3 (Nat.le_refl _)
        have hV3 := ((hV0.below kY (by omega)).mono (by have := kY.size; omega)).set (tn * 8 + cn) (by omega) (l ++ [x]) (by simp) hrow3 (owns_plain ho3)
        have HV3 := Lib.hid hV3
        have HO3 := Lib.hid hO3
        have HA4 := Lib.hid hA4
        have HO9 := Lib.hid ho3
        clear ho3 hg3 hA3 hO3 hA4 hrow3 hV3
        go_simp
        refine hK.out _ _ (trivial) (fun hHeld => ?_)
        clear hK K
        try simp only [Act.put, List.getElem_toArray, List.getElem_cons_zero, List.getElem_cons_succ, List.setIfInBounds_toArray, List.set_cons_zero, List.set_cons_succ]
        refine wpAnyH_done (by kernel_rfl) ?_ _
        go_wp2_with (first | refine wpList_load32 rfl _ rfl w.heap.size rfl HA4.out HV3.out.size ?_ | refine wpList_store32 rfl _ _ rfl (w.heap.size + 1) _ rfl rfl HO3.out rfl HV3.out.size HV3.out.one ?_)
        refine ret_c2 rfl (w.heap.size + 1) rfl (HO3.out.setRow _) HV3.out.size rfl ?_
        have k4 := bel_setRow (g := w.heap.size + 1) ((hb0.trans (kY.mono (by omega))).setCell (p := ⟨w.heap.size, tn * 8 + cn, none⟩) (Nat.le_refl _) (.slice a3 (l.length + 1) c3)) (by omega) (cs.setIfInBounds (tn * 8 + cn) (.slice a3 (l.length + 1) c3))
        have ho4 := ((Chg.refl (w.heap.size + 1) _).setRow (cs.setIfInBounds (tn * 8 + cn) (.slice a3 (l.length + 1) c3))).owns (((Chg.refl w.heap.size Z).setc ⟨w.heap.size, tn * 8 + cn, none⟩ (.slice a3 (l.length + 1) c3) rfl).owns HO9.out (by omega)) (by omega)
        exact ⟨_, by rw [HE.out]; rfl, by rw [HF.out]; exact ((hV.below k4 hB).mono (by have := k4.size; omega)).set (tn * 8 + cn) (by omega) (l ++ [x]) (by simp) (by rw [show intVals .i64 (l ++ [x]) = intVals .i64 l ++ [.int .i64 x] by simp [intVals]]; exact RowAt.of_owns ho4 (Nat.le_refl _)) (owns_plain ho4), k4⟩
    · go_simp
      obtain ⟨lb, hlb⟩ : ∃ g, Y.heap.size = g := ⟨_, rfl⟩
      obtain ⟨Z, hZ⟩ : ∃ Z, Y.alloc (.cells #[.int .i64 x] 3) = Z := ⟨_, rfl⟩
      have jz : Below Y.heap.size Y Z := by rw [← hZ]; exact (Below.refl _ Y).alloc (Nat.le_refl _) _
      have hx : Blk Z lb #[.int .i64 x] 3 := by rw [← hZ, ← hlb]; exact Blk.new Y _ _
      rw [hZ, hlb]
      replace kY := kY.trans (jz.mono kY.size)
      clear hZ
      refine hK.out _ _ (trivial) (fun hHeld => ?_)
      clear hK K
      try simp only [Act.put, List.getElem_toArray, List.getElem_cons_zero, List.getElem_cons_succ, List.setIfInBounds_toArray, List.set_cons_zero, List.set_cons_succ]
      obtain ⟨Y, rfl⟩ : ∃ Y : World, Y = Z := ⟨_, rfl⟩
      refine wpAnyH_ready (rs := [2]) (by kernel_rfl) (by simp) ?_
      refine AllReadyH.cons rfl (fun K hK => ?_) AllReadyH.nil
      go_simp
      obtain ⟨g, hg⟩ : ∃ g, Y.heap.size = g := ⟨_, rfl⟩
      obtain ⟨Z, hZ⟩ : ∃ Z, Y.alloc (.cells #[] 3) = Z := ⟨_, rfl⟩
      have jz : Below Y.heap.size Y Z := by rw [← hZ]; exact (Below.refl _ Y).alloc (Nat.le_refl _) _
      have ho : Z.ownsRow w1.heap.size 3 1 (.slice (some ⟨g, 0, none⟩) 0 0) 0 [] := by rw [← hZ, ← hg]; exact World.ownsRow_made Y #[] 0 kY.size (by decide) rfl
      rw [hZ, hg]
      replace kY := kY.trans (jz.mono kY.size)
      have hne : lb ≠ g := by have := hx.lt; omega
      replace hx := hx.below jz hx.lt
      clear hZ
      refine hK.out _ _ (trivial) (fun hHeld => ?_)
      clear hK K
      try simp only [Act.put, List.getElem_toArray, List.getElem_cons_zero, List.getElem_cons_succ, List.setIfInBounds_toArray, List.set_cons_zero, List.set_cons_succ]
      obtain ⟨Y, rfl⟩ : ∃ Y : World, Y = Z := ⟨_, rfl⟩
      refine wpAnyH_ready (rs := [8]) (by kernel_rfl) (by simp) ?_
      refine AllReadyH.cons rfl (fun K hK => ?_) AllReadyH.nil
      rw [if_pos (by rfl)]
      refine wp_append_any _ _ 35 rfl w1.heap.size Try.underlying35 info64 0 [] rfl ho B l.length (intVals .i64 l) rfl (HRW.out.below kY (by omega)) (by rw [intVals_len]; omega) (intVals_one _ _) (by unfold maxLen; omega) (by omega) kY.size ?_
      intro v2 Z ho2 hg2
      rw [Nat.zero_add, List.nil_append] at ho2
      replace kY := kY.appended ho hg2 (Nat.le_refl _) kY.size
      replace hx : Blk Z lb #[.int .i64 x] 3 := (hg2.block lb hx.lt (fun e => hne (by cases e; rfl))).trans hx
      refine hK.out _ _ (trivial) (fun hHeld => ?_)
      clear hK K
      try simp only [Act.put, List.getElem_toArray, List.getElem_cons_zero, List.getElem_cons_succ, List.setIfInBounds_toArray, List.set_cons_zero, List.set_cons_succ]
      obtain ⟨Y, rfl⟩ : ∃ Y : World, Y = Z := ⟨_, rfl⟩
      refine wpAnyH_ready (rs := [11]) (by kernel_rfl) (by simp) ?_
      refine AllReadyH.cons rfl (fun K hK => ?_) AllReadyH.nil
      rw [if_pos (by rfl)]
      refine wp_append_rowO _ _ 35 rfl w1.heap.size Try.underlying35 info64 l.length (intVals .i64 l) rfl ho2 (World.heap _).size 1 [.int .i64 x] rfl (rowOf hx) rfl (by intro u hu; rw [List.mem_singleton.1 hu]; rfl) (by unfold maxLen; omega) (by omega) kY.size ?_
      intro v3 Z ho3 hg3
      replace kY := kY.appended ho2 hg3 (Nat.le_refl _) kY.size
      obtain ⟨a3, c3, rfl, _⟩ := (RowAt.of_owns ho3 (Nat.le_refl _)).len
      refine hK.out _ _ (trivial) (fun hHeld => ?_)
      clear hK K
      try simp only [Act.put, List.getElem_toArray, List.getElem_cons_zero, List.getElem_cons_succ, List.setIfInBounds_toArray, List.set_cons_zero, List.set_cons_succ]
      refine wpAnyH_take (i := 13) (v := ?_) rfl (by kernel_rfl) (by kernel_rfl) (by kernel_rfl) (fun _ _ _ h => h) (Or.inl ⟨by rfl, ?_⟩) (by assumption) ?_
      rotate_left
      · (intro Y hSw; (try dsimp only at hSw); obtain _ := hSw; go_simp; try with_reducible rfl)
      try simp only [Act.put, List.getElem_toArray, List.getElem_cons_zero, List.getElem_cons_succ, List.setIfInBounds_toArray, List.set_cons_zero, List.set_cons_succ]
      refine wpAnyH_ready (rs := [14]) (by kernel_rfl) (by simp) ?_
      refine AllReadyH.cons rfl (fun K hK => ?_) AllReadyH.nil
      go_simp
      have hA3 := hA.below kY hA.lt
      have hO3 := (hO.below kY hO.lt).setOther ⟨w.heap.size, tn * 8 + cn, none⟩ (.slice a3 (l.length + 1) c3) (by show w.heap.size + 1 ≠ w.heap.size; omega)
      have hcw : Z.cell? ⟨w.heap.size, tn * 8 + cn, none⟩ = some (.slice la l.length lc) := (kY.cell (p := ⟨w.heap.size, tn * 8 + cn, none⟩) hA.lt).trans q
      have hfw : Z.frozen? ⟨w.heap.size, tn * 8 + cn, none⟩ = false := hA3.frozen _
      have hA4 := hA3.set (tn * 8 + cn) (.slice a3 (l.length + 1) c3)
      have hrow3 : RowAt Z.heap.size Z (.slice a3 (l.length + 1) c3) (l.length + 1) (intVals .i64 (l ++ [x])) := by rw [show intVals .i64 (l ++ [x]) = intVals .i64 l ++ [.int .i64 x] by simp [intVals]]; exact RowAt.of_owns ho3 (Nat.le_refl _)
      have hV3 := ((hV0.below kY (by omega)).mono (by have := kY.size; omega)).set (tn * 8 + cn) (by omega) (l ++ [x]) (by simp) hrow3 (owns_plain ho3)
      have HV3 := Lib.hid hV3
      have HO3 := Lib.hid hO3
      have HA4 := Lib.hid hA4
      have HO9 := Lib.hid ho3
      clear ho3 hg3 hA3 hO3 hA4 hrow3 hV3
      go_simp
      refine hK.out _ _ (trivial) (fun hHeld => ?_)
      clear hK K
      try simp only [Act.put, List.getElem_toArray, List.getElem_cons_zero, List.getElem_cons_succ, List.setIfInBounds_toArray, List.set_cons_zero, List.set_cons_succ]
      refine wpAnyH_done (by kernel_rfl) ?_ _
      go_wp2_with (first | refine wpList_load32 rfl _ rfl w.heap.size rfl HA4.out HV3.out.size ?_ | refine wpList_store32 rfl _ _ rfl (w.heap.size + 1) _ rfl rfl HO3.out rfl HV3.out.size HV3.out.one ?_)
      refine ret_c2 rfl (w.heap.size + 1) rfl (HO3.out.setRow _) HV3.out.size rfl ?_
      have k4 := bel_setRow (g := w.heap.size + 1) ((hb0.trans (kY.mono (by omega))).setCell (p := ⟨w.heap.size, tn * 8 + cn, none⟩) (Nat.le_refl _) (.slice a3 (l.length + 1) c3)) (by omega) (cs.setIfInBounds (tn * 8 + cn) (.slice a3 (l.length + 1) c3))
      have ho4 := ((Chg.refl (w.heap.size + 1) _).setRow (cs.setIfInBounds (tn * 8 + cn) (.slice a3 (l.length + 1) c3))).owns (((Chg.refl w.heap.size Z).setc ⟨w.heap.size, tn * 8 + cn, none⟩ (.slice a3 (l.length + 1) c3) rfl).owns HO9.out (by omega)) (by omega)
      exact ⟨_, by rw [HE.out]; rfl, by rw [HF.out]; exact ((hV.below k4 hB).mono (by have := k4.size; omega)).set (tn * 8 + cn) (by omega) (l ++ [x]) (by simp) (by rw [show intVals .i64 (l ++ [x]) = intVals .i64 l ++ [.int .i64 x] by simp [intVals]]; exact RowAt.of_owns ho4 (Nat.le_refl _)) (owns_plain ho4), k4⟩
  · go_simp
    obtain ⟨lb, hlb⟩ : ∃ g, Y.heap.size = g := ⟨_, rfl⟩
    obtain ⟨Z, hZ⟩ : ∃ Z, Y.alloc (.cells #[.int .i64 x] 3) = Z := ⟨_, rfl⟩
    have jz : Below Y.heap.size Y Z := by rw [← hZ]; exact (Below.refl _ Y).alloc (Nat.le_refl _) _
    have hx : Blk Z lb #[.int .i64 x] 3 := by rw [← hZ, ← hlb]; exact Blk.new Y _ _
    rw [hZ, hlb]
    replace kY := kY.trans (jz.mono kY.size)
    clear hZ
    refine hK.out _ _ (trivial) (fun hHeld => ?_)
    clear hK K
    try simp only [Act.put, List.getElem_toArray, List.getElem_cons_zero, List.getElem_cons_succ, List.setIfInBounds_toArray, List.set_cons_zero, List.set_cons_succ]
    obtain ⟨Y, rfl⟩ : ∃ Y : World, Y = Z := ⟨_, rfl⟩
    refine wpAnyH_ready (rs := [2, 7]) (by kernel_rfl) (by simp) ?_
    refine AllReadyH.cons rfl (fun K hK => ?_) (AllReadyH.cons rfl (fun K hK => ?_) AllReadyH.nil)
    · go_simp
      obtain ⟨g, hg⟩ : ∃ g, Y.heap.size = g := ⟨_, rfl⟩
      obtain ⟨Z, hZ⟩ : ∃ Z, Y.alloc (.cells #[] 3) = Z := ⟨_, rfl⟩
      have jz : Below Y.heap.size Y Z := by rw [← hZ]; exact (Below.refl _ Y).alloc (Nat.le_refl _) _
      have ho : Z.ownsRow w1.heap.size 3 1 (.slice (some ⟨g, 0, none⟩) 0 0) 0 [] := by rw [← hZ, ← hg]; exact World.ownsRow_made Y #[] 0 kY.size (by decide) rfl
      rw [hZ, hg]
      replace kY := kY.trans (jz.mono kY.size)
      have hne : lb ≠ g := by have := hx.lt; omega
      replace hx := hx.below jz hx.lt
      clear hZ
      refine hK.out _ _ (trivial) (fun hHeld => ?_)
      clear hK K
      try simp only [Act.put, List.getElem_toArray, List.getElem_cons_zero, List.getElem_cons_succ, List.setIfInBounds_toArray, List.set_cons_zero, List.set_cons_succ]
      obtain ⟨Y, rfl⟩ : ∃ Y : World, Y = Z := ⟨_, rfl⟩
      refine wpAnyH_ready (rs := [7]) (by kernel_rfl) (by simp) ?_
      refine AllReadyH.cons rfl (fun K hK => ?_) AllReadyH.nil
      go_simp
      have hcv : World.cell? _ ⟨w.heap.size, tn * 8 + cn, none⟩ = some (.slice la l.length lc) := (kY.cell (p := ⟨w.heap.size, tn * 8 + cn, none⟩) hA.lt).trans q
      go_simp
      refine hK.out _ _ (trivial) (fun hHeld => ?_)
      clear hK K
      try simp only [Act.put, List.getElem_toArray, List.getElem_cons_zero, List.getElem_cons_succ, List.setIfInBounds_toArray, List.set_cons_zero, List.set_cons_succ]
      clear hcv
      refine wpAnyH_ready (rs := [8]) (by kernel_rfl) (by simp) ?_
      refine AllReadyH.cons rfl (fun K hK => ?_) AllReadyH.nil
      rw [if_pos (by rfl)]
      refine wp_append_any _ _ 35 rfl w1.heap.size Try.underlying35 info64 0 [] rfl ho B l.length (intVals .i64 l) rfl (HRW.out.below kY (by omega)) (by rw [intVals_len]; omega) (intVals_one _ _) (by unfold maxLen; omega) (by omega) kY.size ?_
      intro v2 Z ho2 hg2
      rw [Nat.zero_add, List.nil_append] at ho2
      replace kY := kY.appended ho hg2 (Nat.le_refl _) kY.size
      replace hx : Blk Z lb #[.int .i64 x] 3 := (hg2.block lb hx.lt (fun e => hne (by cases e; rfl))).trans hx
      refine hK.out _ _ (trivial) (fun hHeld => ?_)
      clear hK K
      try simp only [Act.put, List.getElem_toArray, List.getElem_cons_zero, List.getElem_cons_succ, List.setIfInBounds_toArray, List.set_cons_zero, List.set_cons_succ]
      obtain ⟨Y, rfl⟩ : ∃ Y : World, Y = Z := ⟨_, rfl⟩
      refine wpAnyH_ready (rs := [11]) (by kernel_rfl) (by simp) ?_
      refine AllReadyH.cons rfl (fun K hK => ?_) AllReadyH.nil
      rw [if_pos (by rfl)]
      refine wp_append_rowO _ _ 35 rfl w1.heap.size Try.underlying35 info64 l.length (intVals .i64 l) rfl ho2 (World.heap _).size 1 [.int .i64 x] rfl (rowOf hx) rfl (by intro u hu; rw [List.mem_singleton.1 hu]; rfl) (by unfold maxLen; omega) (by omega) kY.size ?_
      intro v3 Z ho3 hg3
      replace kY := kY.appended ho2 hg3 (Nat.le_refl _) kY.size
      obtain ⟨a3, c3, rfl, _⟩ := (RowAt.of_owns ho3 (Nat.le_refl _)).len
      refine hK.out _ _ (trivial) (fun hHeld => ?_)
      clear hK K
      try simp only [Act.put, List.getElem_toArray, List.getElem_cons_zero, List.getElem_cons_succ, List.setIfInBounds_toArray, List.set_cons_zero, List.set_cons_succ]
      refine wpAnyH_take (i := 13) (v := ?_) rfl (by kernel_rfl) (by kernel_rfl) (by kernel_rfl) (fun _ _ _ h => h) (Or.inl ⟨by rfl, ?_⟩) (by assumption) ?_
      rotate_left
      · (intro Y hSw; (try dsimp only at hSw); obtain _ := hSw; go_simp; try with_reducible rfl)
      try simp only [Act.put, List.getElem_toArray, List.getElem_cons_zero, List.getElem_cons_succ, List.setIfInBounds_toArray, List.set_cons_zero, List.set_cons_succ]
      refine wpAnyH_ready (rs := [14]) (by kernel_rfl) (by simp) ?_
      refine AllReadyH.cons rfl (fun K hK => ?_) AllReadyH.nil
      go_simp
      have hA3 := hA.below kY hA.lt
      have hO3 := (hO.below kY hO.lt).setOther ⟨w.heap.size, tn * 8 + cn, none⟩ (.slice a3 (l.length + 1) c3) (by show w.heap.size + 1 ≠ w.heap.size; omega)
      have hcw : Z.cell? ⟨w.heap.size, tn * 8 + cn, none⟩ = some (.slice la l.length lc) := (kY.cell (p := ⟨w.heap.size, tn * 8 + cn, none⟩) hA.lt).trans q
      have hfw : Z.frozen? ⟨w.heap.size, tn * 8 + cn, none⟩ = false := hA3.frozen _
      have hA4 := hA3.set (tn * 8 + cn) (.slice a3 (l.length + 1) c3)
      have hrow3 : RowAt Z.heap.size Z (.slice a3 (l.length + 1) c3) (l.length + 1) (intVals .i64 (l ++ [x])) := by rw [show intVals .i64 (l ++ [x]) = intVals .i64 l ++ [.int .i64 x] by simp [intVals]]; exact RowAt.of_owns ho3 (Nat.le_refl _)
      have hV3 := ((hV0.below kY (by omega)).mono (by have := kY.size; omega)).set (tn * 8 + cn) (by omega) (l ++ [x]) (by simp) hrow3 (owns_plain ho3)
      have HV3 := Lib.hid hV3
      have HO3 := Lib.hid hO3
      have HA4 := Lib.hid hA4
      have HO9 := Lib.hid ho3
      clear ho3 hg3 hA3 hO3 hA4 hrow3 hV3
      go_simp
      refine hK.out _ _ (trivial) (fun hHeld => ?_)
      clear hK K
      try simp only [Act.put, List.getElem_toArray, List.getElem_cons_zero, List.getElem_cons_succ, List.setIfInBounds_toArray, List.set_cons_zero, List.set_cons_succ]
      refine wpAnyH_done (by kernel_rfl) ?_ _
      go_wp2_with (first | refine wpList_load32 rfl _ rfl w.heap.size rfl HA4.out HV3.out.size ?_ | refine wpList_store32 rfl _ _ rfl (w.heap.size + 1) _ rfl rfl HO3.out rfl HV3.out.size HV3.out.one ?_)
      refine ret_c2 rfl (w.heap.size + 1) rfl (HO3.out.setRow _) HV3.out.size rfl ?_
      have k4 := bel_setRow (g := w.heap.size + 1) ((hb0.trans (kY.mono (by omega))).setCell (p := ⟨w.heap.size, tn * 8 + cn, none⟩) (Nat.le_refl _) (.slice a3 (l.length + 1) c3)) (by omega) (cs.setIfInBounds (tn * 8 + cn) (.slice a3 (l.length + 1) c3))
      have ho4 := ((Chg.refl (w.heap.size + 1) _).setRow (cs.setIfInBounds (tn * 8 + cn) (.slice a3 (l.length + 1) c3))).owns (((Chg.refl w.heap.size Z).setc ⟨w.heap.size, tn * 8 + cn, none⟩ (.slice a3 (l.length + 1) c3) rfl).owns HO9.out (by omega)) (by omega)
      exact ⟨_, by rw [HE.out]; rfl, by rw [HF.out]; exact ((hV.below k4 hB).mono (by have := k4.size; omega)).set (tn * 8 + cn) (by omega) (l ++ [x]) (by simp) (by rw [show intVals .i64 (l ++ [x]) = intVals .i64 l ++ [.int .i64 x] by simp [intVals]]; exact RowAt.of_owns ho4 (Nat.le_refl _)) (owns_plain ho4), k4⟩
    · go_simp
      have hcv : World.cell? _ ⟨w.heap.size, tn * 8 + cn, none⟩ = some (.slice la l.length lc) := (kY.cell (p := ⟨w.heap.size, tn * 8 + cn, none⟩) hA.lt).trans q
      go_simp
      refine hK.out _ _ (trivial) (fun hHeld => ?_)
      clear hK K
      try simp only [Act.put, List.getElem_toArray, List.getElem_cons_zero, List.getElem_cons_succ, List.setIfInBounds_toArray, List.set_cons_zero, List.set_cons_succ]
      clear hcv
      refine wpAnyH_ready (rs := [2]) (by kernel_rfl) (by simp) ?_
      refine AllReadyH.cons rfl (fun K hK => ?_) AllReadyH.nil
      go_simp
      obtain ⟨g, hg⟩ : ∃ g, Y.heap.size = g := ⟨_, rfl⟩
      obtain ⟨Z, hZ⟩ : ∃ Z, Y.alloc (.cells #[] 3) = Z := ⟨_, rfl⟩
      have jz : Below Y.heap.size Y Z := by rw [← hZ]; exact (Below.refl _ Y).alloc (Nat.le_refl _) _
      have ho : Z.ownsRow w1.heap.size 3 1 (.slice (some ⟨g, 0, none⟩) 0 0) 0 [] := by rw [← hZ, ← hg]; exact World.ownsRow_made Y #[] 0 kY.size (by decide) rfl
      rw [hZ, hg]
      replace kY := kY.trans (jz.mono kY.size)
      have hne : lb ≠ g := by have := hx.lt; omega
      replace hx := hx.below jz hx.lt
      clear hZ
      refine hK.out _ _ (trivial) (fun hHeld => ?_)
      clear hK K
      try simp only [Act.put, List.getElem_toArray, List.getElem_cons_zero, List.getElem_cons_succ, List.setIfInBounds_toArray, List.set_cons_zero, List.set_cons_succ]
      obtain ⟨Y, rfl⟩ : ∃ Y : World, Y = Z := ⟨_, rfl⟩
      refine wpAnyH_ready (rs := [8]) (by kernel_rfl) (by simp) ?_
      refine AllReadyH.cons rfl (fun K hK => ?_) AllReadyH.nil
      rw [if_pos (by rfl)]
      refine wp_append_any _ _ 35 rfl w1.heap.size Try.underlying35 info64 0 [] rfl ho B l.length (intVals .i64 l) rfl (HRW.out.below kY (by omega)) (by rw [intVals_len]; omega) (intVals_one _ _) (by unfold maxLen; omega) (by omega) kY.size ?_
      intro v2 Z ho2 hg2
      rw [Nat.zero_add, List.nil_append] at ho2
      replace kY := kY.appended ho hg2 (Nat.le_refl _) kY.size
      replace hx : Blk Z lb #[.int .i64 x] 3 := (hg2.block lb hx.lt (fun e => hne (by cases e; rfl))).trans hx
      refine hK.out _ _ (trivial) (fun hHeld => ?_)
      clear hK K
      try simp only [Act.put, List.getElem_toArray, List.getElem_cons_zero, List.getElem_cons_succ, List.setIfInBounds_toArray, List.set_cons_zero, List.set_cons_succ]
      obtain ⟨Y, rfl⟩ : ∃ Y : World, Y = Z := ⟨_, rfl⟩
      refine wpAnyH_ready (rs := [11]) (by kernel_rfl) (by simp) ?_
      refine AllReadyH.cons rfl (fun K hK => ?_) AllReadyH.nil
      rw [if_pos (by rfl)]
      refine wp_append_rowO _ _ 35 rfl w1.heap.size Try.underlying35 info64 l.length (intVals .i64 l) rfl ho2 (World.heap _).size 1 [.int .i64 x] rfl (rowOf hx) rfl (by intro u hu; rw [List.mem_singleton.1 hu]; rfl) (by unfold maxLen; omega) (by omega) kY.size ?_
      intro v3 Z ho3 hg3
      replace kY := kY.appended ho2 hg3 (Nat.le_refl _) kY.size
      obtain ⟨a3, c3, rfl, _⟩ := (RowAt.of_owns ho3 (Nat.le_refl _)).len
      refine hK.out _ _ (trivial) (fun hHeld => ?_)
      clear hK K
      try simp only [Act.put, List.getElem_toArray, List.getElem_cons_zero, List.getElem_cons_succ, List.setIfInBounds_toArray, List.set_cons_zero, List.set_cons_succ]
      refine wpAnyH_take (i := 13) (v := ?_) rfl (by kernel_rfl) (by kernel_rfl) (by kernel_rfl) (fun _ _ _ h => h) (Or.inl ⟨by rfl, ?_⟩) (by assumption) ?_
      rotate_left
      · (intro Y hSw; (try dsimp only at hSw); obtain _ := hSw; go_simp; try with_reducible rfl)
      try simp only [Act.put, List.getElem_toArray, List.getElem_cons_zero, List.getElem_cons_succ, List.setIfInBounds_toArray, List.set_cons_zero, List.set_cons_succ]
      refine wpAnyH_ready (rs := [14]) (by kernel_rfl) (by simp) ?_
      refine AllReadyH.cons rfl (fun K hK => ?_) AllReadyH.nil
      go_simp
      have hA3 := hA.below kY hA.lt
      have hO3 := (hO.below kY hO.lt).setOther ⟨w.heap.size, tn * 8 + cn, none⟩ (.slice a3 (l.length + 1) c3) (by show w.heap.size + 1 ≠ w.heap.size; omega)
      have hcw : Z.cell? ⟨w.heap.size, tn * 8 + cn, none⟩ = some (.slice la l.length lc) := (kY.cell (p := ⟨w.heap.size, tn * 8 + cn, none⟩) hA.lt).trans q
      have hfw : Z.frozen? ⟨w.heap.size, tn * 8 + cn, none⟩ = false := hA3.frozen _
      have hA4 := hA3.set (tn * 8 + cn) (.slice a3 (l.length + 1) c3)
      have hrow3 : RowAt Z.heap.size Z (.slice a3 (l.length + 1) c3) (l.length + 1) (intVals .i64 (l ++ [x])) := by rw [show intVals .i64 (l ++ [x]) = intVals .i64 l ++ [.int .i64 x] by simp [intVals]]; exact RowAt.of_owns ho3 (Nat.le_refl _)
      have hV3 := ((hV0.below kY (by omega)).mono (by have := kY.size; omega)).set (tn * 8 + cn) (by omega) (l ++ [x]) (by simp) hrow3 (owns_plain ho3)
      have HV3 := Lib.hid hV3
      have HO3 := Lib.hid hO3
      have HA4 := Lib.hid hA4
      have HO9 := Lib.hid ho3
      clear ho3 hg3 hA3 hO3 hA4 hrow3 hV3
      go_simp
      refine hK.out _ _ (trivial) (fun hHeld => ?_)
      clear hK K
      try simp only [Act.put, List.getElem_toArray, List.getElem_cons_zero, List.getElem_cons_succ, List.setIfInBounds_toArray, List.set_cons_zero, List.set_cons_succ]
      refine wpAnyH_done (by kernel_rfl) ?_ _
      go_wp2_with (first | refine wpList_load32 rfl _ rfl w.heap.size rfl HA4.out HV3.out.size ?_ | refine wpList_store32 rfl _ _ rfl (w.heap.size + 1) _ rfl rfl HO3.out rfl HV3.out.size HV3.out.one ?_)
      refine ret_c2 rfl (w.heap.size + 1) rfl (HO3.out.setRow _) HV3.out.size rfl ?_
      have k4 := bel_setRow (g := w.heap.size + 1) ((hb0.trans (kY.mono (by omega))).setCell (p := ⟨w.heap.size, tn * 8 + cn, none⟩) (Nat.le_refl _) (.slice a3 (l.length + 1) c3)) (by omega) (cs.setIfInBounds (tn * 8 + cn) (.slice a3 (l.length + 1) c3))
      have ho4 := ((Chg.refl (w.heap.size + 1) _).setRow (cs.setIfInBounds (tn * 8 + cn) (.slice a3 (l.length + 1) c3))).owns (((Chg.refl w.heap.size Z).setc ⟨w.heap.size, tn * 8 + cn, none⟩ (.slice a3 (l.length + 1) c3) rfl).owns HO9.out (by omega)) (by omega)
      exact ⟨_, by rw [HE.out]; rfl, by rw [HF.out]; exact ((hV.below k4 hB).mono (by have := k4.size; omega)).set (tn * 8 + cn) (by omega) (l ++ [x]) (by simp) (by rw [show intVals .i64 (l ++ [x]) = intVals .i64 l ++ [.int .i64 x] by simp [intVals]]; exact RowAt.of_owns ho4 (Nat.le_refl _)) (owns_plain ho4), k4⟩
end Go.Proofs.Ytkilmppmghkigaa
