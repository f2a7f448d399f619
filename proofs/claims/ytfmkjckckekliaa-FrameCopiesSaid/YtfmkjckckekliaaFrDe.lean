/-
  Package pinfoldref07: Take. Conditions: few frames.
-/
import Derived.Test.YtfmkjckckekliaaFrDd
namespace Go.Proofs.Ytfmkjckckekliaa
open Go.RowKit
attribute [local go_sem] Oper.semAt_some
set_option maxHeartbeats 1000000
set_option maxRecDepth 8000

theorem mk256 (w : World) : ∃ wm, (Instr.makeSlice 36 (.int .i64 256) (.int .i64 256)).run Try.prog w = .ok (.slice (some ⟨w.heap.size, 0, none⟩) 256 256) wm ∧ Below w.heap.size w wm ∧
    (convert 36 9 (.slice (some ⟨w.heap.size, 0, none⟩) 256 256)).run Try.prog wm = .ok (.string (strOfNums zeros256)) wm := by
  obtain ⟨i0, hi, hz, hsize, hby, hzs, hsz⟩ := info8
  obtain ⟨wm, hmk, hom, hgm⟩ := run_make_full (P := Try.prog) w w.heap.size 36 5 i0 (.int .u8 0) 1 Try.underlying36 hi hz hsize .i64 .i64 256 (by rw [hby]; decide) (by decide) (Nat.le_refl _)
  have hzl : zeros256.length = 256 := List.length_replicate
  refine ⟨wm, hmk, (Below.refl _ w).grown hgm (Nat.le_refl _) (fun k e => by cases e), ?_⟩
  refine run_convert_row (P := Try.prog) (B := wm.heap.size) zeros256 ?_ Try.underlying36 Try.underlying5 Try.underlying9
  have := RowAt.of_owns hom (Nat.le_refl _)
  change RowAt _ _ _ _ (madeCells #[.int .u8 0] 256).toList at this
  rw [toList_madeCells_one] at this
  rw [hzl]
  exact this
theorem freeD_hit {L : List Df} {c : Nat} (hc : c < L.length) (h : L[c].1 < 0) (hn : ∀ j (hj : j < L.length), j < c → ¬ L[j].1 < 0) : freeD L = c :=
  (List.findIdx_eq hc).2 ⟨decide_eq_true h, fun j hj => decide_eq_false (hn j (by omega) hj)⟩
theorem freeD_no {L : List Df} (hn : ∀ j (hj : j < L.length), ¬ L[j].1 < 0) : ¬ freeD L < L.length := by
  intro h
  have := List.findIdx_getElem (w := h)
  exact hn _ h (of_decide_eq_true this)
/-- What Take leans on while it takes. -/
theorem rTake_ok (v : Value) {V : List Int} (L : List Df) (B : Nat) (o : Int) (w : World) (hB : B ≤ w.heap.size) (hl : L.length < 1000000) (hV : V.length = 64) (hv : RowAt B w v L.length (frV L)) :
    Calls Try.prog 43 #[.agg (poolV v V), .int .i64 o] w fun e w' =>
      ∃ v', e = .returned (.tuple #[.agg (poolV v' V), .int .i64 (tkI L V o), .int .i64 (tkE L V o)]) ∧ RowAt w'.heap.size w' v' (tkL L V o).length (frV (tkL L V o)) ∧ Below w.heap.size w w' := by
  obtain ⟨a1, c1, rfl, _⟩ := hv.len
  obtain ⟨w0, hw0⟩ : ∃ w0, (w.alloc (.cells (poolV (.slice a1 L.length c1) V) 54)).alloc (.cells Try.zeroCells54 54) = w0 := ⟨_, rfl⟩
  have hM := RS.new (V := V) hB hv
  rw [hw0] at hM
  have HVL := Lib.hid hV
  obtain ⟨s, hs⟩ : ∃ s, w.heap.size = s := ⟨_, rfl⟩
  have HS := Lib.hid hs
  rw [hs] at hM
  clear hv hV
  have hbad : tkE L V o ≠ 0 → tkL L V o = L ∧ tkI L V o = 0 := fun h => ⟨by unfold tkL; rw [if_neg h], by unfold tkI; rw [if_neg h]⟩
  have HBD := Lib.hid hbad
  clear hbad
  go_enter Try.func43, Try.ntmps43
  go_wp2_with fail
  clear hw0 hs
  refine (rOwner_ok _ _).mono ?_; rintro e _ ⟨rfl, rfl⟩
  cases hbo : badOwner o
  · have hoo := ownerOk.1 (show ¬ badOwner o = true by rw [hbo]; decide)
    obtain ⟨o0, o1⟩ := hoo
    obtain ⟨k, rfl⟩ : ∃ k : Nat, o = k := ⟨o.toNat, by omega⟩
    have hk : k < 64 := by omega
    have he0 : tkE L V k = if V.getD k 0 ≤ takD L k then 171 else if freeD L < L.length then 0 else 171 := by unfold tkE; rw [if_neg (by rw [hbo]; decide), Int.toNat_natCast]
    obtain ⟨y, hy⟩ : ∃ y, V.getD k 0 = y := ⟨_, rfl⟩
    have HY := Lib.hid hy
    rw [hy] at he0
    have HE0 := Lib.hid he0
    clear he0 hbo hy
    go_wp2_with fail
    refine wp_onlyN ?_
    refine wp_region_held_drew (S := RvS s (.slice a1 L.length c1) V) (by kernel_rfl) ⟨hM.t.drew⟩ (fun hHeld => ?_)
    replace hM := hM.step (Below.refl _ w0).drew
    change wpAnyH _ _ _ _ _ _ _ _ w0.drew
    generalize w0.drew = w3 at hM hHeld ⊢
    have i0 : (0 : Int) ≤ k := by omega
    have i1 : (k : Int) < 64 := by omega
    refine wpAnyH_take (i := 0) (v := .agg (poolV (.slice a1 L.length c1) V)) rfl (by kernel_rfl) (by kernel_rfl) (by kernel_rfl) (fun _ _ _ h => h) (Or.inl ⟨by rfl, fun Y hSw => exec_loadB ty65 _ rfl s rfl hSw.b (poolV_size _ HVL.out)⟩) (by assumption) ?_
    try simp only [Act.put, List.getElem_toArray, List.getElem_cons_zero, List.getElem_cons_succ, List.setIfInBounds_toArray, List.set_cons_zero, List.set_cons_succ]
    refine wpAnyH_take (i := 1) (v := ?_) rfl (by kernel_rfl) (by kernel_rfl) (by kernel_rfl) (fun _ _ _ h => h) (Or.inl ⟨by rfl, ?_⟩) (by assumption) ?_
    rotate_left
    · (intro Y hSw; (try dsimp only at hSw); obtain ⟨hS0⟩ := hSw; go_simp; try with_reducible rfl)
    try simp only [Act.put, List.getElem_toArray, List.getElem_cons_zero, List.getElem_cons_succ, List.setIfInBounds_toArray, List.set_cons_zero, List.set_cons_succ]
    refine wpAnyH_take (i := 3) (v := ?_) rfl (by kernel_rfl) (by kernel_rfl) (by kernel_rfl) (fun _ _ _ h => h) (Or.inl ⟨by rfl, ?_⟩) (by assumption) ?_
    rotate_left
    · (intro Y hSw; (try dsimp only at hSw); obtain ⟨hS0⟩ := hSw; go_simp; try with_reducible rfl)
    try simp only [Act.put, List.getElem_toArray, List.getElem_cons_zero, List.getElem_cons_succ, List.setIfInBounds_toArray, List.set_cons_zero, List.set_cons_succ]
    refine wpAnyH_take (i := 4) (v := ?_) rfl (by kernel_rfl) (by kernel_rfl) (by kernel_rfl) (fun _ _ _ h => h) (Or.inl ⟨by rfl, ?_⟩) (by assumption) ?_
    rotate_left
    · (intro Y hSw; (try dsimp only at hSw); obtain ⟨hS0⟩ := hSw; go_simp; try with_reducible rfl)
    try simp only [Act.put, List.getElem_toArray, List.getElem_cons_zero, List.getElem_cons_succ, List.setIfInBounds_toArray, List.set_cons_zero, List.set_cons_succ]
    refine wpAnyH_take (i := 5) (v := ?_) rfl (by kernel_rfl) (by kernel_rfl) (by kernel_rfl) (fun _ _ _ h => h) (Or.inl ⟨by rfl, ?_⟩) (by assumption) ?_
    rotate_left
    · (intro Y hSw; (try dsimp only at hSw); obtain ⟨hS0⟩ := hSw; go_simp; try with_reducible rfl)
    try simp only [Act.put, List.getElem_toArray, List.getElem_cons_zero, List.getElem_cons_succ, List.setIfInBounds_toArray, List.set_cons_zero, List.set_cons_succ]
    refine wpAnyH_take (i := 6) (v := .int .i64 y) rfl (by kernel_rfl) (by kernel_rfl) (by kernel_rfl) (fun _ _ _ h => h) (Or.inl ⟨by rfl, by intro Y hSw; have c9 := hSw.b.cell _ (poolV_at (.slice a1 L.length c1) k (by rw [HVL.out]; exact hk)); rw [HY.out] at c9; go_simp⟩) (by assumption) ?_
    try simp only [Act.put, List.getElem_toArray, List.getElem_cons_zero, List.getElem_cons_succ, List.setIfInBounds_toArray, List.set_cons_zero, List.set_cons_succ]
    refine wpAnyH_ready (rs := [2]) (by kernel_rfl) (by simp) ?_
    refine AllReadyH.cons rfl (fun K hK => ?_) AllReadyH.nil
    go_simp
    refine (rTaken_ok (.slice a1 L.length c1) V L s k w3 (by have := hM.sz; omega) hl hM.row).mono ?_; rintro e w4 ⟨rfl, k4⟩
    replace hM := hM.step k4
    clear k4
    go_simp
    refine hK.out _ _ (⟨hM.t⟩) (fun hHeld => ?_)
    clear hK K
    try simp only [Act.put, List.getElem_toArray, List.getElem_cons_zero, List.getElem_cons_succ, List.setIfInBounds_toArray, List.set_cons_zero, List.set_cons_succ]
    obtain ⟨tk, htk⟩ : ∃ tk, takD L k = tk := ⟨_, rfl⟩
    rw [htk] at HE0 ⊢
    clear htk
    by_cases h1 : y ≤ tk
    · have he : tkE L V k = 171 := by rw [HE0.out, if_pos h1]
      have HE := Lib.hid he
      have HL2 := Lib.hid (HBD.out (by rw [he]; decide)).1
      have HI := Lib.hid (HBD.out (by rw [he]; decide)).2
      clear he
      refine wpAnyH_take (i := 7) (v := .bool true) rfl (by kernel_rfl) (by kernel_rfl) (by kernel_rfl) (fun _ _ _ h => h) (Or.inl ⟨by rfl, by intro Y hSw; go_simp; try omega⟩) (by assumption) ?_
      try simp only [Act.put, List.getElem_toArray, List.getElem_cons_zero, List.getElem_cons_succ, List.setIfInBounds_toArray, List.set_cons_zero, List.set_cons_succ]
      refine wpAnyH_done (by kernel_rfl) ?_ _
      rw [onlyN_normal]
      clear hHeld
      go_wp2_with (first | refine wpList_loadB ty65 rfl _ rfl s rfl hM.t (poolV_size _ HVL.out) ?_ | refine wpList_storeBG ty65 rfl _ _ rfl (s + 1) (poolV (.slice a1 L.length c1) V) rfl rfl hM.r (poolV_size _ rfl) (poolV_size _ HVL.out) (poolV_one rfl V) ?_)
      intro w9 hw9
      obtain ⟨hO, hR, hK⟩ := hM.fin hM.row HVL.out hw9
      clear hw9 hM
      go_wp2_with fail
      refine ret_p3 rfl (s + 1) rfl hO (poolV_size _ HVL.out) rfl ?_
      refine ⟨(.slice a1 L.length c1), ?_, by rw [HL2.out]; exact hR, by rw [HS.out]; exact hK⟩
      rw [HE.out, HI.out]; rfl
    · have HE1 := Lib.hid (show tkE L V k = if freeD L < L.length then 0 else 171 by rw [HE0.out, if_neg h1])
      refine wpAnyH_take (i := 7) (v := .bool false) rfl (by kernel_rfl) (by kernel_rfl) (by kernel_rfl) (fun _ _ _ h => h) (Or.inl ⟨by rfl, by intro Y hSw; go_simp; try omega⟩) (by assumption) ?_
      try simp only [Act.put, List.getElem_toArray, List.getElem_cons_zero, List.getElem_cons_succ, List.setIfInBounds_toArray, List.set_cons_zero, List.set_cons_succ]
      refine wpAnyH_done (by kernel_rfl) ?_ _
      rw [onlyN_normal]
      clear hHeld HE0
      have HM := Lib.hid hM
      clear hM
      go_wp2_with fail
      go_loopw [7] (fun i wr => ∃ c : Nat, c ≤ L.length ∧ i = .int .i64 c ∧ (∀ j (hj : j < L.length), j < c → ¬ L[j].1 < 0) ∧ wr = w4) (fun i _ => L.length - (intOf i).toNat)
      case atStart => exact ⟨0, by omega, rfl, fun j _ h => by omega, rfl⟩
      case round =>
        obtain ⟨c, hc, rfl, hn, rfl⟩ := hrel
        have HN := Lib.hid hn
        clear hn
        have hM := HM.out
        have c0 : wr.cell? ⟨s, 0, none⟩ = some (.slice a1 L.length c1) := hM.t.cell 0 (poolV_zero _ _)
        by_cases hlt : c < L.length
        · have hrw := hM.row
          obtain ⟨b1, o9, rfl, _, q⟩ := hrw.getf c hlt
          have q0 := q.c0
          have j0 : (0 : Int) ≤ c := by omega
          have j1 : (c : Int) < L.length := by omega
          obtain ⟨z, hz⟩ : ∃ z, L[c].1 = z := ⟨_, rfl⟩
          have HZ := Lib.hid hz
          rw [hz] at q0
          have HRW := Lib.hid hrw
          clear q hz hrw
          by_cases hneg : z < 0
          · have hfd := freeD_hit hlt (by rw [HZ.out]; exact hneg) HN.out
            have he : tkE L V k = 0 := by rw [HE1.out, hfd, if_pos hlt]
            have HE := Lib.hid he
            have hi2 : tkI L V k = c := by unfold tkI; rw [if_pos he, hfd]
            have HI := Lib.hid hi2
            have hl2 : tkL L V k = L.set c (k, zeros256) := by unfold tkL; rw [if_pos he, hfd]
            have HL2 := Lib.hid hl2
            have HFD := Lib.hid hfd
            clear he hi2 hl2 hfd
            go_wp2_with fail
            clear c0 q0
            refine wp_onlyN ?_
            refine wp_region_held_drew (S := RvS s (.slice (some ⟨b1, o9, none⟩) L.length c1) V) (by kernel_rfl) ⟨hM.t.drew⟩ (fun hHeld => ?_)
            have hrd := HRW.out.below (Below.refl s wr).drew (Nat.le_refl _)
            replace hM := hM.step (Below.refl _ wr).drew
            change wpAnyH _ _ _ _ _ _ _ _ wr.drew
            generalize wr.drew = w5 at hM hHeld hrd ⊢
            refine wpAnyH_take (i := 0) (v := .agg (poolV (.slice (some ⟨b1, o9, none⟩) L.length c1) V)) rfl (by kernel_rfl) (by kernel_rfl) (by kernel_rfl) (fun _ _ _ h => h) (Or.inl ⟨by rfl, fun Y hSw => exec_loadB ty65 _ rfl s rfl hSw.b (poolV_size _ HVL.out)⟩) (by assumption) ?_
            try simp only [Act.put, List.getElem_toArray, List.getElem_cons_zero, List.getElem_cons_succ, List.setIfInBounds_toArray, List.set_cons_zero, List.set_cons_succ]
            refine wpAnyH_take (i := 1) (v := ?_) rfl (by kernel_rfl) (by kernel_rfl) (by kernel_rfl) (fun _ _ _ h => h) (Or.inl ⟨by rfl, ?_⟩) (by assumption) ?_
            rotate_left
            · (intro Y hSw; (try dsimp only at hSw); obtain ⟨hS0⟩ := hSw; go_simp; try with_reducible rfl)
            try simp only [Act.put, List.getElem_toArray, List.getElem_cons_zero, List.getElem_cons_succ, List.setIfInBounds_toArray, List.set_cons_zero, List.set_cons_succ]
            refine wpAnyH_take (i := 2) (v := ?_) rfl (by kernel_rfl) (by kernel_rfl) (by kernel_rfl) (fun _ _ _ h => h) (Or.inl ⟨by rfl, ?_⟩) (by assumption) ?_
            rotate_left
            · (intro Y hSw; (try dsimp only at hSw); obtain ⟨hS0⟩ := hSw; go_simp; try with_reducible rfl)
            try simp only [Act.put, List.getElem_toArray, List.getElem_cons_zero, List.getElem_cons_succ, List.setIfInBounds_toArray, List.set_cons_zero, List.set_cons_succ]
            refine wpAnyH_take (i := 7) (v := ?_) rfl (by kernel_rfl) (by kernel_rfl) (by kernel_rfl) (fun _ _ _ h => h) (Or.inl ⟨by rfl, ?_⟩) (by assumption) ?_
            rotate_left
            · (intro Y hSw; (try dsimp only at hSw); obtain ⟨hS0⟩ := hSw; go_simp; try with_reducible rfl)
            try simp only [Act.put, List.getElem_toArray, List.getElem_cons_zero, List.getElem_cons_succ, List.setIfInBounds_toArray, List.set_cons_zero, List.set_cons_succ]
            have hsz5 := hM.sz
            obtain ⟨wm, hmk, km, hcv⟩ := mk256 w5
            refine wpAnyH_ready (rs := [3]) (by kernel_rfl) (by simp) ?_
            refine AllReadyH.cons rfl (fun K hK => ?_) AllReadyH.nil
            go_simp
            replace hM := hM.step km
            have hrd2 := hrd.below km (by omega)
            clear hmk km
            refine hK.out _ _ (⟨hM.t⟩) (fun hHeld => ?_)
            clear hK K
            try simp only [Act.put, List.getElem_toArray, List.getElem_cons_zero, List.getElem_cons_succ, List.setIfInBounds_toArray, List.set_cons_zero, List.set_cons_succ]
            refine wpAnyH_ready (rs := [4]) (by kernel_rfl) (by simp) ?_
            refine AllReadyH.cons rfl (fun K hK => ?_) AllReadyH.nil
            go_simp
            refine hK.out _ _ (⟨hM.t⟩) (fun hHeld => ?_)
            clear hK K
            try simp only [Act.put, List.getElem_toArray, List.getElem_cons_zero, List.getElem_cons_succ, List.setIfInBounds_toArray, List.set_cons_zero, List.set_cons_succ]
            refine wpAnyH_take (i := 5) (v := ?_) rfl (by kernel_rfl) (by kernel_rfl) (by kernel_rfl) (fun _ _ _ h => h) (Or.inl ⟨by rfl, ?_⟩) (by assumption) ?_
            rotate_left
            · (intro Y hSw; (try dsimp only at hSw); obtain ⟨hS0⟩ := hSw; go_simp; try with_reducible rfl)
            try simp only [Act.put, List.getElem_toArray, List.getElem_cons_zero, List.getElem_cons_succ, List.setIfInBounds_toArray, List.set_cons_zero, List.set_cons_succ]
            refine wpAnyH_ready (rs := [6]) (by kernel_rfl) (by simp) ?_
            refine AllReadyH.cons rfl (fun K hK => ?_) AllReadyH.nil
            go_simp
            refine (rWith_ok (.slice (some ⟨b1, o9, none⟩) L.length c1) L s c ((k : Int), zeros256) wm (by have := hM.sz; omega) hl hlt HVL.out hrd2).mono ?_; rintro e w6 ⟨v2, rfl, ho2, k6⟩
            have hsz := hM.sz
            replace hM := hM.step k6
            clear k6 hrd2 hrd
            obtain ⟨L2, hL2⟩ : ∃ L2, L.set c ((k : Int), zeros256) = L2 := ⟨_, rfl⟩
            rw [hL2] at ho2 HL2
            have hv2 := (RowAt.of_owns ho2 (Nat.le_refl _)).one
            have HV1 := Lib.hid hv2
            clear hL2 hv2
            go_simp
            refine hK.out _ _ (⟨hM.t⟩) (fun hHeld => ?_)
            clear hK K
            try simp only [Act.put, List.getElem_toArray, List.getElem_cons_zero, List.getElem_cons_succ, List.setIfInBounds_toArray, List.set_cons_zero, List.set_cons_succ]
            refine wpAnyH_ready (rs := [8]) (by kernel_rfl) (by simp) ?_
            refine AllReadyH.cons rfl (fun K hK => ?_) AllReadyH.nil
            rw [if_pos (by rfl)]
            refine wp_storeB ty65 _ _ rfl (s + 1) (poolV v2 V) rfl rfl hM.r (poolV_size _ rfl) (poolV_size _ HVL.out) (poolV_one HV1.out V) ?_
            obtain ⟨w7, hw7⟩ : ∃ w7, Hid (w6.setCells (s + 1) 0 (poolV v2 V).toList = w7) := ⟨_, Lib.hid rfl⟩
            obtain ⟨hO, hR, hK2⟩ := hM.finO hsz ho2 HVL.out hw7
            have ht7 := hM.t.setCellsO (poolV v2 V).toList 0 (show s ≠ s + 1 by omega)
            rw [hw7.out] at ht7 ⊢
            clear hw7 ho2 hM
            refine hK.out _ _ (⟨ht7⟩) (fun hHeld => ?_)
            clear hK K
            try simp only [Act.put, List.getElem_toArray, List.getElem_cons_zero, List.getElem_cons_succ, List.setIfInBounds_toArray, List.set_cons_zero, List.set_cons_succ]
            refine wpAnyH_take (i := 9) (v := ?_) rfl (by kernel_rfl) (by kernel_rfl) (by kernel_rfl) (fun _ _ _ h => h) (Or.inl ⟨by rfl, ?_⟩) (by assumption) ?_
            rotate_left
            · (intro Y hSw; (try dsimp only at hSw); obtain ⟨hS0⟩ := hSw; go_simp; try with_reducible rfl)
            try simp only [Act.put, List.getElem_toArray, List.getElem_cons_zero, List.getElem_cons_succ, List.setIfInBounds_toArray, List.set_cons_zero, List.set_cons_succ]
            refine wpAnyH_take (i := 10) (v := ?_) rfl (by kernel_rfl) (by kernel_rfl) (by kernel_rfl) (fun _ _ _ h => h) (Or.inl ⟨by rfl, ?_⟩) (by assumption) ?_
            rotate_left
            · (intro Y hSw; (try dsimp only at hSw); obtain ⟨hS0⟩ := hSw; go_simp; try with_reducible rfl)
            try simp only [Act.put, List.getElem_toArray, List.getElem_cons_zero, List.getElem_cons_succ, List.setIfInBounds_toArray, List.set_cons_zero, List.set_cons_succ]
            refine wpAnyH_done (by kernel_rfl) ?_ _
            rw [onlyN_normal]
            clear hHeld
            go_wp2_with fail
            refine ret_p3 rfl (s + 1) rfl hO (poolV_size _ HVL.out) rfl ?_
            refine ⟨v2, ?_, by rw [HL2.out]; exact hR, by rw [HS.out]; exact hK2⟩
            rw [HE.out, HI.out]; rfl
          · go_wp2_with fail
            exact ⟨⟨c + 1, by omega, by go_num, fun j hj hjc => by rcases Nat.lt_or_ge j c with h | h; exact HN.out j hj h; (have : j = c := by omega); subst this; rw [HZ.out]; omega, trivial⟩, by simp [intOf]; omega⟩
        · obtain rfl : c = L.length := by omega
          have hfd := freeD_no fun j hj => HN.out j hj hj
          have he : tkE L V k = 171 := by rw [HE1.out, if_neg hfd]
          have HE := Lib.hid he
          have HL2 := Lib.hid (HBD.out (by rw [he]; decide)).1
          have HI := Lib.hid (HBD.out (by rw [he]; decide)).2
          clear he hfd
          go_wp2_with (first | refine wpList_loadB ty65 rfl _ rfl s rfl hM.t (poolV_size _ HVL.out) ?_ | refine wpList_storeBG ty65 rfl _ _ rfl (s + 1) (poolV (.slice a1 L.length c1) V) rfl rfl hM.r (poolV_size _ rfl) (poolV_size _ HVL.out) (poolV_one rfl V) ?_)
          intro w9 hw9
          obtain ⟨hO, hR, hK⟩ := hM.fin hM.row HVL.out hw9
          clear hw9 hM
          go_wp2_with fail
          refine ret_p3 rfl (s + 1) rfl hO (poolV_size _ HVL.out) rfl ?_
          refine ⟨(.slice a1 L.length c1), ?_, by rw [HL2.out]; exact hR, by rw [HS.out]; exact hK⟩
          rw [HE.out, HI.out]; rfl
  · have he : tkE L V o = 2 := by unfold tkE; rw [if_pos hbo]
    have HE := Lib.hid he
    have HL2 := Lib.hid (HBD.out (by rw [he]; decide)).1
    have HI := Lib.hid (HBD.out (by rw [he]; decide)).2
    clear he hbo
    go_wp2_with (first | refine wpList_loadB ty65 rfl _ rfl s rfl hM.t (poolV_size _ HVL.out) ?_ | refine wpList_storeBG ty65 rfl _ _ rfl (s + 1) (poolV (.slice a1 L.length c1) V) rfl rfl hM.r (poolV_size _ rfl) (poolV_size _ HVL.out) (poolV_one rfl V) ?_)
    intro w9 hw9
    obtain ⟨hO, hR, hK⟩ := hM.fin hM.row HVL.out hw9
    clear hw9 hM
    go_wp2_with fail
    refine ret_p3 rfl (s + 1) rfl hO (poolV_size _ HVL.out) rfl ?_
    refine ⟨(.slice a1 L.length c1), ?_, by rw [HL2.out]; exact hR, by rw [HS.out]; exact hK⟩
    rw [HE.out, HI.out]; rfl
end Go.Proofs.Ytfmkjckckekliaa
