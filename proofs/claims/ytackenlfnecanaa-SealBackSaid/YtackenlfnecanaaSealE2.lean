/-
  The reference's Open. Conditions: the bounds of the kinds; lengths up to maxLen.
-/
import Derived.Test.YtackenlfnecanaaSealE
namespace Go.Proofs.Ytackenlfnecanaa
open Go.RowKit
attribute [local go_sem] Oper.semAt_some
set_option maxHeartbeats 1000000
set_option maxRecDepth 4000

theorem strOfNums_inj (a b : List Int) (ha : ∀ x ∈ a, 0 ≤ x ∧ x < 256) (hb : ∀ x ∈ b, 0 ≤ x ∧ x < 256) (h : strOfNums a = strOfNums b) : a = b := by
  have h1 : (strOfNums a).data.toList = (strOfNums b).data.toList := by rw [h]
  rw [strOfNums_data, strOfNums_data] at h1
  have back : ∀ l : List Int, (∀ x ∈ l, 0 ≤ x ∧ x < 256) → (l.map fun n => UInt8.ofNat n.toNat).map (fun u => ((u.toNat : Nat) : Int)) = l := by
    intro l hl
    rw [List.map_map]
    conv => rhs; rw [← List.map_id l]
    refine List.map_congr_left fun x hx => ?_
    have := hl x hx
    simp
    omega
  have h2 := congrArg (List.map (fun u : UInt8 => ((u.toNat : Nat) : Int))) h1
  rwa [back a ha, back b hb] at h2
theorem sealB_bytes (b n : Int) : ∀ x ∈ sealB b n, 0 ≤ x ∧ x < 256 := by
  intro x hx
  unfold sealB at hx
  rcases List.mem_append.1 hx with h | h
  · exact bytesI_bd _ _ x h
  · exact bytesI_bd _ _ x h
theorem str_beq (a b : List Int) (ha : ∀ x ∈ a, 0 ≤ x ∧ x < 256) (hb : ∀ x ∈ b, 0 ≤ x ∧ x < 256) : ((strOfNums a).toList == (strOfNums b).toList) = decide (a = b) := by
  have h1 : ∀ l : List Int, (strOfNums l).toList = (strOfNums l).data.toList := fun l => by rw [ByteArray.toList_eq]
  rw [h1, h1, Bool.eq_iff_iff]
  simp only [beq_iff_eq, decide_eq_true_eq]
  refine ⟨fun h => strOfNums_inj a b ha hb ?_, fun h => by rw [h]⟩
  have : (strOfNums a).data = (strOfNums b).data := Array.toList_inj.1 h
  cases hA : strOfNums a; cases hB : strOfNums b
  rw [hA, hB] at this
  simp only at this
  rw [this]
theorem rOpen_ok (key at_ : Int) (hk : 0 ≤ key) (hk' : key < 18446744073709551616) (ha : 0 ≤ at_) (ha' : at_ < 4294967296) (v : Value) (l : List Int) (hw : ∀ x ∈ l, 0 ≤ x ∧ x < 256) (hl : l.length ≤ maxLen) (B : Nat) (w : World) (hB : B ≤ w.heap.size) (hv : RowAt B w v l.length (intVals .u8 l)) :
    Calls Try.prog 16 #[.int .u64 key, .int .u32 at_, v] w (OpenPost w key at_ l 2 160) := by
  unfold maxLen at hl
  obtain ⟨ad, cap, rfl, _, _⟩ := id hv
  by_cases h16 : l.length = 16
  · have hv8 := row_take hv 8 (by omega)
    obtain ⟨b, off, rfl, hbB, _⟩ := hv.get 0 (by omega)
    have hcap : (8 : Int) ≤ cap := by obtain ⟨_, _, he, ⟨h, _⟩, _⟩ := hv; cases he; omega
    have h8 : (l.take 8).length = 8 := by rw [List.length_take]; omega
    have hl16 : (((l.length : Nat) : Int)) = 16 := by omega
    have hwr : IntKind.u64.wrap at_ = at_ := wraps_u64' _ ha (by omega)
    obtain ⟨u, hu⟩ : ∃ u, saidI key at_ l = u := ⟨_, rfl⟩
    have hub := said_bd key at_ l
    rw [hu] at hub
    have hw8 : ∀ x ∈ l.take 8, 0 ≤ x ∧ x < 256 := fun x hx => hw x (List.mem_of_mem_take hx)
    have hlw : ∀ x ∈ [key, at_], 0 ≤ x ∧ x < 18446744073709551616 := by
      intro x hx
      simp only [List.mem_cons, List.not_mem_nil, or_false] at hx
      rcases hx with rfl | rfl <;> omega
    have HLW := Lib.hid hlw
    clear hlw
    have HV := Lib.hid (show 0 ≤ valI (l.take 8) ∧ valI (l.take 8) < 18446744073709551616 by have := valI_bd (l.take 8) hw8; rw [h8] at this; exact this)
    have HW := Lib.hid hw8
    have HW1 := Lib.hid hw
    have H8 := Lib.hid h8
    clear hw hw8 h8
    obtain ⟨w0, hw0⟩ : ∃ w0, w.alloc (.cells #[.int .i64 0, .int .i64 0, .int .u32 0] 27) = w0 := ⟨_, rfl⟩
    have hX : Blk w0 w.heap.size #[.int .i64 0, .int .i64 0, .int .u32 0] 27 := by rw [← hw0]; exact Blk.new w _ _
    have hb0 : Below w.heap.size w w0 := by rw [← hw0]; exact (Below.refl _ w).alloc (Nat.le_refl _) _
    have hz0 : w.heap.size + 1 = w0.heap.size := by rw [← hw0]; simp
    go_enter Try.func16, Try.ntmps16
    go_wp2_with fail
    clear hw0
    refine (rGet_ok _ (l.take 8) HW.out B _ (by omega) (by rw [H8.out]; rfl) (hv8.below hb0 hB)).mono ?_; rintro e w1 ⟨rfl, h1⟩
    go_wp2_with fail
    refine (rFold_ok _ [key, at_] HLW.out (w1.heap.size + 1) _ (by simp) (by simp) (RowAt.lit w1 #[.int .u64 key, .int .u64 at_] 22 2 _ (by omega))).mono ?_; rintro e w2 ⟨rfl, h2⟩
    go_wp2_with fail
    refine (rUndo_ok _ _ (fold_bd _).1 (fold_bd _).2 HV.out.1 HV.out.2 _).mono ?_; rintro e w3 ⟨rfl, rfl⟩
    have hk3 : Below w0.heap.size w0 w2 := by
      have z1 := h1.size
      have z2 := h2.size
      simp at z2
      exact (h1.trans (((Below.refl _ w1).alloc (Nat.le_refl _) _).mono z1)).trans (h2.mono (by simp; omega))
    clear h1 h2
    have z3 := hk3.size
    rw [show undoI (foldI [key, at_]) (valI (l.take 8)) = u from hu]
    have hbd := parts_bd u hub.1 hub.2
    have hc : u / 281474976710656 = clsI u := rfl
    have hn : bits BinOp.and IntKind.u64 u 4294967295 % 4294967296 = nonI u := by
      rw [mask_eq _ hub.1 hub.2]; unfold nonI; omega
    have hs : wrap64 (bits BinOp.and IntKind.u64 (u / 4294967296) 65535) = szI u := by
      rw [and16 _ (by omega) (by omega)]
      show wrap64 (szI u) = szI u
      unfold wrap64; omega
    obtain ⟨w4, hw4⟩ : ∃ w4, w2.alloc (.cells #[.int .i64 (clsI u), .int .i64 (szI u), .int .u32 (nonI u)] 27) = w4 := ⟨_, rfl⟩
    have hY : Blk w4 w2.heap.size #[.int .i64 (clsI u), .int .i64 (szI u), .int .u32 (nonI u)] 27 := by rw [← hw4]; exact Blk.new w2 _ _
    have hk4 : Below w0.heap.size w0 w4 := by rw [← hw4]; exact hk3.alloc z3 _
    have z4 := hk4.size
    have HS := Lib.hid (fun (Y : World) (h : Below w4.heap.size w4 Y) => run_convert_row (P := Try.prog) l (((hv.below hb0 hB).below hk4 (by omega)).below h (by omega)) Try.underlying28 Try.underlying5 Try.underlying9)
    rw [h16] at HS
    go_wp2_with fail
    clear hw4
    cases hr : rightI (clsI u) (szI u)
    · have hok : okI key at_ l = false := by unfold okI; rw [hu, hr]; rfl
      refine wp_region_held_drew (S := fun Y => TagAt w4 w2.heap.size (clsI u) (szI u) (nonI u) Y ∧ (convert 28 9 (.slice (some ⟨b, off, none⟩) 16 cap)).run Try.prog Y = .ok (.string (strOfNums l)) Y) (by kernel_rfl) ⟨TagAt.of hY (Below.refl _ w4).drew, HS.out _ (Below.refl _ w4).drew⟩ (fun hHeld => ?_)
      refine wpAnyH_take (i := 0) (v := ?_) rfl (by kernel_rfl) (by kernel_rfl) (by kernel_rfl) (fun _ _ _ h => h) (Or.inl ⟨by rfl, ?_⟩) (by assumption) ?_
      rotate_left
      · (intro Y hSw; (try dsimp only at hSw); obtain ⟨⟨hS1, hS2, hS3, hS4⟩, hS5⟩ := hSw; go_simp; try with_reducible rfl)
      try simp only [Act.put, List.getElem_toArray, List.getElem_cons_zero, List.getElem_cons_succ, List.setIfInBounds_toArray, List.set_cons_zero, List.set_cons_succ]
      refine wpAnyH_ready (rs := [1]) (by kernel_rfl) (by simp) ?_
      refine AllReadyH.cons rfl (fun K hK => ?_) AllReadyH.nil
      go_simp
      refine (rRight_calls _ _ _ _).mono ?_; rintro e w5 ⟨rfl, h5⟩
      have h5' := (Below.refl w4.heap.size w4).drew.trans (h5.mono (Nat.le_refl _))
      rw [hr]
      go_wp2_with fail
      refine hK.out _ _ (⟨TagAt.of hY h5', HS.out _ h5'⟩) (fun hHeld => ?_)
      clear hK K
      try simp only [Act.put, List.getElem_toArray, List.getElem_cons_zero, List.getElem_cons_succ, List.setIfInBounds_toArray, List.set_cons_zero, List.set_cons_succ]
      refine wpAnyH_take (i := 2) (v := ?_) rfl (by kernel_rfl) (by kernel_rfl) (by kernel_rfl) (fun _ _ _ h => h) (Or.inl ⟨by rfl, ?_⟩) (by assumption) ?_
      rotate_left
      · (intro Y hSw; (try dsimp only at hSw); obtain ⟨⟨hS1, hS2, hS3, hS4⟩, hS5⟩ := hSw; go_simp; try with_reducible rfl)
      try simp only [Act.put, List.getElem_toArray, List.getElem_cons_zero, List.getElem_cons_succ, List.setIfInBounds_toArray, List.set_cons_zero, List.set_cons_succ]
      refine wpAnyH_take (i := 3) (v := ?_) rfl (by kernel_rfl) (by kernel_rfl) (by kernel_rfl) (fun _ _ _ h => h) (Or.inl ⟨by rfl, ?_⟩) (by assumption) ?_
      rotate_left
      · (intro Y hSw; (try dsimp only at hSw); obtain ⟨⟨hS1, hS2, hS3, hS4⟩, hS5⟩ := hSw; go_simp; try with_reducible rfl)
      try simp only [Act.put, List.getElem_toArray, List.getElem_cons_zero, List.getElem_cons_succ, List.setIfInBounds_toArray, List.set_cons_zero, List.set_cons_succ]
      refine wpAnyH_take (i := 4) (v := undef) rfl (by kernel_rfl) (by kernel_rfl) (by kernel_rfl) (fun _ _ _ h => h) (Or.inr ⟨by rfl, rfl⟩) (by assumption) ?_
      try simp only [Act.put, List.getElem_toArray, List.getElem_cons_zero, List.getElem_cons_succ, List.setIfInBounds_toArray, List.set_cons_zero, List.set_cons_succ]
      refine wpAnyH_take (i := 5) (v := undef) rfl (by kernel_rfl) (by kernel_rfl) (by kernel_rfl) (fun _ _ _ h => h) (Or.inr ⟨by rfl, rfl⟩) (by assumption) ?_
      try simp only [Act.put, List.getElem_toArray, List.getElem_cons_zero, List.getElem_cons_succ, List.setIfInBounds_toArray, List.set_cons_zero, List.set_cons_succ]
      refine wpAnyH_take (i := 6) (v := undef) rfl (by kernel_rfl) (by kernel_rfl) (by kernel_rfl) (fun _ _ _ h => h) (Or.inr ⟨by rfl, rfl⟩) (by assumption) ?_
      try simp only [Act.put, List.getElem_toArray, List.getElem_cons_zero, List.getElem_cons_succ, List.setIfInBounds_toArray, List.set_cons_zero, List.set_cons_succ]
      refine wpAnyH_take (i := 7) (v := undef) rfl (by kernel_rfl) (by kernel_rfl) (by kernel_rfl) (fun _ _ _ h => h) (Or.inr ⟨by rfl, rfl⟩) (by assumption) ?_
      try simp only [Act.put, List.getElem_toArray, List.getElem_cons_zero, List.getElem_cons_succ, List.setIfInBounds_toArray, List.set_cons_zero, List.set_cons_succ]
      refine wpAnyH_take (i := 8) (v := undef) rfl (by kernel_rfl) (by kernel_rfl) (by kernel_rfl) (fun _ _ _ h => h) (Or.inr ⟨by rfl, rfl⟩) (by assumption) ?_
      try simp only [Act.put, List.getElem_toArray, List.getElem_cons_zero, List.getElem_cons_succ, List.setIfInBounds_toArray, List.set_cons_zero, List.set_cons_succ]
      refine wpAnyH_take (i := 9) (v := undef) rfl (by kernel_rfl) (by kernel_rfl) (by kernel_rfl) (fun _ _ _ h => h) (Or.inr ⟨by rfl, rfl⟩) (by assumption) ?_
      try simp only [Act.put, List.getElem_toArray, List.getElem_cons_zero, List.getElem_cons_succ, List.setIfInBounds_toArray, List.set_cons_zero, List.set_cons_succ]
      refine wpAnyH_take (i := 10) (v := undef) rfl (by kernel_rfl) (by kernel_rfl) (by kernel_rfl) (fun _ _ _ h => h) (Or.inr ⟨by rfl, rfl⟩) (by assumption) ?_
      try simp only [Act.put, List.getElem_toArray, List.getElem_cons_zero, List.getElem_cons_succ, List.setIfInBounds_toArray, List.set_cons_zero, List.set_cons_succ]
      refine wpAnyH_take (i := 11) (v := undef) rfl (by kernel_rfl) (by kernel_rfl) (by kernel_rfl) (fun _ _ _ h => h) (Or.inr ⟨by rfl, rfl⟩) (by assumption) ?_
      try simp only [Act.put, List.getElem_toArray, List.getElem_cons_zero, List.getElem_cons_succ, List.setIfInBounds_toArray, List.set_cons_zero, List.set_cons_succ]
      refine wpAnyH_take (i := 12) (v := ?_) rfl (by kernel_rfl) (by kernel_rfl) (by kernel_rfl) (fun _ _ _ h => h) (Or.inl ⟨by rfl, ?_⟩) (by assumption) ?_
      rotate_left
      · (intro Y hSw; (try dsimp only at hSw); obtain ⟨⟨hS1, hS2, hS3, hS4⟩, hS5⟩ := hSw; go_simp; try with_reducible rfl)
      try simp only [Act.put, List.getElem_toArray, List.getElem_cons_zero, List.getElem_cons_succ, List.setIfInBounds_toArray, List.set_cons_zero, List.set_cons_succ]
      refine wpAnyH_done (by kernel_rfl) ?_ _
      have hk5 := hk4.trans (h5'.mono hk4.size)
      have hX5 := hX.below hk5 hX.lt
      have x0 : w5.cell? ⟨w.heap.size, 0, none⟩ = some (.int .i64 0) := hX5.cell 0 rfl
      have x1 : w5.cell? ⟨w.heap.size, 1, none⟩ = some (.int .i64 0) := hX5.cell 1 rfl
      have x2 : w5.cell? ⟨w.heap.size, 2, none⟩ = some (.int .u32 0) := hX5.cell 2 rfl
      have f0 := hX5.frozen 0
      have f1 := hX5.frozen 1
      have f2 := hX5.frozen 2
      go_wp2_with fail
      have hXf := ((hX5.set 0 (.int .i64 0)).set 1 (.int .i64 0)).set 2 (.int .u32 0)
      have hkf := (((hk5.mono (Nat.le_of_lt (Nat.lt_of_lt_of_eq (Nat.lt_succ_self _) hz0))).setCell (p := ⟨w.heap.size, 0, none⟩) (Nat.le_refl _) (.int .i64 0)).setCell (p := ⟨w.heap.size, 1, none⟩) (Nat.le_refl _) (.int .i64 0)).setCell (p := ⟨w.heap.size, 2, none⟩) (Nat.le_refl _) (.int .u32 0)
      clear x0 x1 x2 f0 f1 f2
      refine post_blk3 (x0 := .int .i64 0) (x1 := .int .i64 0) (x2 := .int .u32 0) hXf ?_
      intro W' hW d0 d1 d2
      rw [← hW] at hkf
      refine bodyPost_ret (v := .tuple #[.agg #[.int .i64 0, .int .i64 0, .int .u32 0], .int .i64 160]) (by simp [results, Try.results16, go_sem, d0, d1, d2]) rfl ⟨_, _, _, _, rfl, hb0.trans hkf, ?_⟩
      exact ⟨fun h => absurd h16 h, fun _ _ => ⟨rfl, rfl, rfl, rfl⟩, fun _ h => by rw [hok] at h; cases h⟩
    · have hse := str_beq (sealB (foldI [key, at_]) (wordI (clsI u) (szI u) (nonI u))) l (sealB_bytes _ _) HW1.out
      obtain ⟨q, hqd⟩ : ∃ q, decide (sealB (foldI [key, at_]) (wordI (clsI u) (szI u) (nonI u)) = l) = q := ⟨_, rfl⟩
      rw [hqd] at hse
      have HQ := Lib.hid hqd
      clear hqd
      refine wp_region_held_drew (S := fun Y => TagAt w4 w2.heap.size (clsI u) (szI u) (nonI u) Y ∧ (convert 28 9 (.slice (some ⟨b, off, none⟩) 16 cap)).run Try.prog Y = .ok (.string (strOfNums l)) Y) (by kernel_rfl) ⟨TagAt.of hY (Below.refl _ w4).drew, HS.out _ (Below.refl _ w4).drew⟩ (fun hHeld => ?_)
      refine wpAnyH_take (i := 0) (v := ?_) rfl (by kernel_rfl) (by kernel_rfl) (by kernel_rfl) (fun _ _ _ h => h) (Or.inl ⟨by rfl, ?_⟩) (by assumption) ?_
      rotate_left
      · (intro Y hSw; (try dsimp only at hSw); obtain ⟨⟨hS1, hS2, hS3, hS4⟩, hS5⟩ := hSw; go_simp; try with_reducible rfl)
      try simp only [Act.put, List.getElem_toArray, List.getElem_cons_zero, List.getElem_cons_succ, List.setIfInBounds_toArray, List.set_cons_zero, List.set_cons_succ]
      refine wpAnyH_ready (rs := [1]) (by kernel_rfl) (by simp) ?_
      refine AllReadyH.cons rfl (fun K hK => ?_) AllReadyH.nil
      go_simp
      refine (rRight_calls _ _ _ _).mono ?_; rintro e w5 ⟨rfl, h5⟩
      have h5' := (Below.refl w4.heap.size w4).drew.trans (h5.mono (Nat.le_refl _))
      rw [hr]
      go_wp2_with fail
      refine hK.out _ _ (⟨TagAt.of hY h5', HS.out _ h5'⟩) (fun hHeld => ?_)
      clear hK K
      try simp only [Act.put, List.getElem_toArray, List.getElem_cons_zero, List.getElem_cons_succ, List.setIfInBounds_toArray, List.set_cons_zero, List.set_cons_succ]
      refine wpAnyH_take (i := 2) (v := ?_) rfl (by kernel_rfl) (by kernel_rfl) (by kernel_rfl) (fun _ _ _ h => h) (Or.inl ⟨by rfl, ?_⟩) (by assumption) ?_
      rotate_left
      · (intro Y hSw; (try dsimp only at hSw); obtain ⟨⟨hS1, hS2, hS3, hS4⟩, hS5⟩ := hSw; go_simp; try with_reducible rfl)
      try simp only [Act.put, List.getElem_toArray, List.getElem_cons_zero, List.getElem_cons_succ, List.setIfInBounds_toArray, List.set_cons_zero, List.set_cons_succ]
      refine wpAnyH_take (i := 3) (v := ?_) rfl (by kernel_rfl) (by kernel_rfl) (by kernel_rfl) (fun _ _ _ h => h) (Or.inl ⟨by rfl, ?_⟩) (by assumption) ?_
      rotate_left
      · (intro Y hSw; (try dsimp only at hSw); obtain ⟨⟨hS1, hS2, hS3, hS4⟩, hS5⟩ := hSw; go_simp; try with_reducible rfl)
      try simp only [Act.put, List.getElem_toArray, List.getElem_cons_zero, List.getElem_cons_succ, List.setIfInBounds_toArray, List.set_cons_zero, List.set_cons_succ]
      refine wpAnyH_take (i := 4) (v := ?_) rfl (by kernel_rfl) (by kernel_rfl) (by kernel_rfl) (fun _ _ _ h => h) (Or.inl ⟨by rfl, ?_⟩) (by assumption) ?_
      rotate_left
      · (intro Y hSw; (try dsimp only at hSw); obtain ⟨⟨hS1, hS2, hS3, hS4⟩, hS5⟩ := hSw; go_simp; try with_reducible rfl)
      try simp only [Act.put, List.getElem_toArray, List.getElem_cons_zero, List.getElem_cons_succ, List.setIfInBounds_toArray, List.set_cons_zero, List.set_cons_succ]
      refine wpAnyH_take (i := 5) (v := ?_) rfl (by kernel_rfl) (by kernel_rfl) (by kernel_rfl) (fun _ _ _ h => h) (Or.inl ⟨by rfl, ?_⟩) (by assumption) ?_
      rotate_left
      · (intro Y hSw; (try dsimp only at hSw); obtain ⟨⟨hS1, hS2, hS3, hS4⟩, hS5⟩ := hSw; go_simp; try with_reducible rfl)
      try simp only [Act.put, List.getElem_toArray, List.getElem_cons_zero, List.getElem_cons_succ, List.setIfInBounds_toArray, List.set_cons_zero, List.set_cons_succ]
      refine wpAnyH_take (i := 6) (v := ?_) rfl (by kernel_rfl) (by kernel_rfl) (by kernel_rfl) (fun _ _ _ h => h) (Or.inl ⟨by rfl, ?_⟩) (by assumption) ?_
      rotate_left
      · (intro Y hSw; (try dsimp only at hSw); obtain ⟨⟨hS1, hS2, hS3, hS4⟩, hS5⟩ := hSw; go_simp; try with_reducible rfl)
      try simp only [Act.put, List.getElem_toArray, List.getElem_cons_zero, List.getElem_cons_succ, List.setIfInBounds_toArray, List.set_cons_zero, List.set_cons_succ]
      refine wpAnyH_take (i := 9) (v := ?_) rfl (by kernel_rfl) (by kernel_rfl) (by kernel_rfl) (fun _ _ _ h => h) (Or.inl ⟨by rfl, ?_⟩) (by assumption) ?_
      rotate_left
      · (intro Y hSw; (try dsimp only at hSw); obtain ⟨⟨hS1, hS2, hS3, hS4⟩, hS5⟩ := hSw; go_simp; try with_reducible rfl)
      try simp only [Act.put, List.getElem_toArray, List.getElem_cons_zero, List.getElem_cons_succ, List.setIfInBounds_toArray, List.set_cons_zero, List.set_cons_succ]
      refine wpAnyH_take (i := 10) (v := ?_) rfl (by kernel_rfl) (by kernel_rfl) (by kernel_rfl) (fun _ _ _ h => h) (Or.inl ⟨by rfl, ?_⟩) (by assumption) ?_
      rotate_left
      · (intro Y hSw; (try dsimp only at hSw); obtain ⟨⟨hS1, hS2, hS3, hS4⟩, hS5⟩ := hSw; go_simp; try with_reducible rfl)
      try simp only [Act.put, List.getElem_toArray, List.getElem_cons_zero, List.getElem_cons_succ, List.setIfInBounds_toArray, List.set_cons_zero, List.set_cons_succ]
      refine wpAnyH_ready (rs := [7]) (by kernel_rfl) (by simp) ?_
      refine AllReadyH.cons rfl (fun K hK => ?_) AllReadyH.nil
      go_simp
      refine (rHead_ok key at_ _ _ _ hk hk' ha ha' hr hbd.2.2.2.2.1 hbd.2.2.2.2.2 _).mono ?_; rintro e w6 ⟨v6, rfl, ho6, h6⟩
      have h6' := h5'.trans (h6.mono h5'.size)
      have hrow6 : RowAt w6.heap.size w6 v6 (sealB (foldI [key, at_]) (wordI (clsI u) (szI u) (nonI u))).length (intVals .u8 (sealB (foldI [key, at_]) (wordI (clsI u) (szI u) (nonI u)))) := by
        rw [sealB_len]; exact RowAt.of_owns ho6 (Nat.le_refl _)
      have hcv := run_convert_row (P := Try.prog) _ hrow6 Try.underlying28 Try.underlying5 Try.underlying9
      clear hrow6
      go_wp2_with fail
      refine hK.out _ _ (⟨TagAt.of hY h6', HS.out _ h6'⟩) (fun hHeld => ?_)
      clear hK K
      try simp only [Act.put, List.getElem_toArray, List.getElem_cons_zero, List.getElem_cons_succ, List.setIfInBounds_toArray, List.set_cons_zero, List.set_cons_succ]
      refine wpAnyH_ready (rs := [8]) (by kernel_rfl) (by simp) ?_
      refine AllReadyH.cons rfl (fun K hK => ?_) AllReadyH.nil
      go_simp
      refine hK.out _ _ (⟨TagAt.of hY h6', HS.out _ h6'⟩) (fun hHeld => ?_)
      clear hK K
      try simp only [Act.put, List.getElem_toArray, List.getElem_cons_zero, List.getElem_cons_succ, List.setIfInBounds_toArray, List.set_cons_zero, List.set_cons_succ]
      clear hcv
      refine wpAnyH_take (i := 11) (v := ?_) rfl (by kernel_rfl) (by kernel_rfl) (by kernel_rfl) (fun _ _ _ h => h) (Or.inl ⟨by rfl, ?_⟩) (by assumption) ?_
      rotate_left
      · (intro Y hSw; (try dsimp only at hSw); obtain ⟨⟨hS1, hS2, hS3, hS4⟩, hS5⟩ := hSw; go_simp; try with_reducible rfl)
      try simp only [Act.put, List.getElem_toArray, List.getElem_cons_zero, List.getElem_cons_succ, List.setIfInBounds_toArray, List.set_cons_zero, List.set_cons_succ]
      refine wpAnyH_take (i := 12) (v := ?_) rfl (by kernel_rfl) (by kernel_rfl) (by kernel_rfl) (fun _ _ _ h => h) (Or.inl ⟨by rfl, ?_⟩) (by assumption) ?_
      rotate_left
      · (intro Y hSw; (try dsimp only at hSw); obtain ⟨⟨hS1, hS2, hS3, hS4⟩, hS5⟩ := hSw; go_simp; try with_reducible rfl)
      try simp only [Act.put, List.getElem_toArray, List.getElem_cons_zero, List.getElem_cons_succ, List.setIfInBounds_toArray, List.set_cons_zero, List.set_cons_succ]
      refine wpAnyH_done (by kernel_rfl) ?_ _
      have hk5 := hk4.trans (h6'.mono hk4.size)
      have hX5 := hX.below hk5 hX.lt
      have hY5 := hY.below h6' hY.lt
      have x0 : w6.cell? ⟨w.heap.size, 0, none⟩ = some (.int .i64 0) := hX5.cell 0 rfl
      have x1 : w6.cell? ⟨w.heap.size, 1, none⟩ = some (.int .i64 0) := hX5.cell 1 rfl
      have x2 : w6.cell? ⟨w.heap.size, 2, none⟩ = some (.int .u32 0) := hX5.cell 2 rfl
      have f0 := hX5.frozen 0
      have f1 := hX5.frozen 1
      have f2 := hX5.frozen 2
      have y0 : w6.cell? ⟨w2.heap.size, 0, none⟩ = some (.int .i64 (clsI u)) := hY5.cell 0 rfl
      have y1 : w6.cell? ⟨w2.heap.size, 1, none⟩ = some (.int .i64 (szI u)) := hY5.cell 1 rfl
      have y2 : w6.cell? ⟨w2.heap.size, 2, none⟩ = some (.int .u32 (nonI u)) := hY5.cell 2 rfl
      cases q
      · have hok : okI key at_ l = false := by unfold okI; rw [hu, hr, HQ.out]; rfl
        clear hse
        go_wp2_with fail
        have hXf := ((hX5.set 0 (.int .i64 0)).set 1 (.int .i64 0)).set 2 (.int .u32 0)
        have hkf := (((hk5.mono (Nat.le_of_lt (Nat.lt_of_lt_of_eq (Nat.lt_succ_self _) hz0))).setCell (p := ⟨w.heap.size, 0, none⟩) (Nat.le_refl _) (.int .i64 0)).setCell (p := ⟨w.heap.size, 1, none⟩) (Nat.le_refl _) (.int .i64 0)).setCell (p := ⟨w.heap.size, 2, none⟩) (Nat.le_refl _) (.int .u32 0)
        clear x0 x1 x2 f0 f1 f2
        refine post_blk3 (x0 := .int .i64 0) (x1 := .int .i64 0) (x2 := .int .u32 0) hXf ?_
        intro W' hW d0 d1 d2
        rw [← hW] at hkf
        refine bodyPost_ret (v := .tuple #[.agg #[.int .i64 0, .int .i64 0, .int .u32 0], .int .i64 160]) (by simp [results, Try.results16, go_sem, d0, d1, d2]) rfl ⟨_, _, _, _, rfl, hb0.trans hkf, ?_⟩
        exact ⟨fun h => absurd h16 h, fun _ _ => ⟨rfl, rfl, rfl, rfl⟩, fun _ h => by rw [hok] at h; cases h⟩
      · have hok : okI key at_ l = true := by unfold okI; rw [hu, hr, HQ.out]; rfl
        clear hse
        go_wp2_with fail
        have hXf := ((hX5.set 0 (.int .i64 (clsI u))).set 1 (.int .i64 (szI u))).set 2 (.int .u32 (nonI u))
        have hkf := (((hk5.mono (Nat.le_of_lt (Nat.lt_of_lt_of_eq (Nat.lt_succ_self _) hz0))).setCell (p := ⟨w.heap.size, 0, none⟩) (Nat.le_refl _) (.int .i64 (clsI u))).setCell (p := ⟨w.heap.size, 1, none⟩) (Nat.le_refl _) (.int .i64 (szI u))).setCell (p := ⟨w.heap.size, 2, none⟩) (Nat.le_refl _) (.int .u32 (nonI u))
        clear y0 y1 y2 x0 x1 x2 f0 f1 f2
        refine post_blk3 (x0 := .int .i64 (clsI u)) (x1 := .int .i64 (szI u)) (x2 := .int .u32 (nonI u)) hXf ?_
        intro W' hW d0 d1 d2
        rw [← hW] at hkf
        refine bodyPost_ret (v := .tuple #[.agg #[.int .i64 (clsI u), .int .i64 (szI u), .int .u32 (nonI u)], .int .i64 0]) (by simp [results, Try.results16, go_sem, d0, d1, d2]) rfl ⟨_, _, _, _, rfl, hb0.trans hkf, ?_⟩
        exact ⟨fun h => absurd h16 h, fun _ h => (by rw [hok] at h; cases h), fun _ _ => by rw [hu]; exact ⟨rfl, rfl, rfl, rfl⟩⟩
  · have hl16 : (((l.length : Nat) : Int) = 16) = False := by simp; omega
    have hl16' : (((l.length : Nat) : Int) == 16) = false := by simp; omega
    have hl16n : (((l.length : Nat) : Int) != 16) = true := by simp; omega
    go_enter Try.func16, Try.ntmps16
    go_wp2_with fail
    refine bodyPost_ret (v := .tuple #[.agg #[.int .i64 0, .int .i64 0, .int .u32 0], .int .i64 2]) (by simp [results, Try.results16, go_sem]) rfl ⟨_, _, _, _, rfl, ?_, ?_⟩
    · exact (Below.refl _ w).alloc (Nat.le_refl _) _
    · exact ⟨fun _ => ⟨rfl, rfl, rfl, rfl⟩, fun h => absurd h h16, fun h => absurd h h16⟩
end Go.Proofs.Ytackenlfnecanaa
