/-
  Package pinfoldlaw04: act. Conditions: marks, their list beside them.
-/
import Derived.Test.YtbkegknfmcanaaaDoorBiV
namespace Go.Proofs.YtbkegknfmcanaaaDoor
open Go.RowKit
attribute [local go_sem] Oper.semAt_some
set_option maxHeartbeats 2000000
set_option maxRecDepth 8000

def actL (L : List Bool) (cp : Bool) (i : Int) (v : Bool) : List Bool := if cp then L else if inI L.length i then L.set i.toNat v else L
/-- What act ends in. -/
structure ActE (B : Nat) (w0 W w' : World) (lo hi : Nat) (v : Value) (s' : Nat) (v' : Value) (lo' hi' : Nat) (L' : List Bool) : Prop where
  run : Run B w0 w' lo' hi' s' L'
  row : RowAt w'.heap.size w' v' L'.length (bvals L')
  off : OffV lo' hi' v'
  tur : Tur lo hi W w'
  rng : (lo' = lo ∧ hi' = hi) ∨ W.heap.size ≤ lo'
  val : v' = v ∨ FarV W.heap.size v'
structure BoxS (b : Nat) (cp : Bool) (i : Int) (m : Bool) (vb vo : Nat) (d : Bool) (Y : World) : Prop where
  c0 : Y.cell? ⟨b, 0, none⟩ = some (.bool cp)
  c1 : Y.cell? ⟨b, 1, none⟩ = some (.int .i64 i)
  c2 : Y.cell? ⟨b, 2, none⟩ = some (.bool m)
  q : Y.cell? ⟨vb, vo, none⟩ = some (.bool d)
theorem BoxS.step {b : Nat} {cp : Bool} {i : Int} {m : Bool} {vb vo : Nat} {d : Bool} {Y Z : World} (h : BoxS b cp i m vb vo d Y) (k : Below Y.heap.size Y Z) : BoxS b cp i m vb vo d Z :=
  ⟨(k.cell (p := ⟨b, 0, none⟩) (World.block_lt_of_cell? Y _ h.c0)).trans h.c0, (k.cell (p := ⟨b, 1, none⟩) (World.block_lt_of_cell? Y _ h.c1)).trans h.c1, (k.cell (p := ⟨b, 2, none⟩) (World.block_lt_of_cell? Y _ h.c2)).trans h.c2, (k.cell (p := ⟨vb, vo, none⟩) (World.block_lt_of_cell? Y _ h.q)).trans h.q⟩
theorem act_ok {B : Nat} {w0 W : World} {lo hi s : Nat} {L : List Bool} {v : Value} (h : Run B w0 W lo hi s L) (hr : RowAt W.heap.size W v L.length (bvals L)) (ho : OffV lo hi v) (cp : Bool) (i : Int) (m : Bool) :
    Calls Tryd.prog 26 #[.pointer (some ⟨s, 0, none⟩), v, .agg #[.bool cp, .int .i64 i, .bool m]] W fun e w' =>
      ∃ s' v' lo' hi', e = .returned (.tuple #[.pointer (some ⟨s', 0, none⟩), v', .bool true]) ∧ ActE B w0 W w' lo hi v s' v' lo' hi' (actL L cp i m) := by
  have hh := h.sh.2.2.1
  have hfew := h.few
  obtain ⟨w1, hw1⟩ : ∃ w1, W.alloc (.cells #[.bool cp, .int .i64 i, .bool m] 57) = w1 := ⟨_, rfl⟩
  have k1 : Below W.heap.size W w1 := by rw [← hw1]; exact (Below.refl _ W).alloc (Nat.le_refl _) _
  have b1 : Blk w1 W.heap.size #[.bool cp, .int .i64 i, .bool m] 57 := by rw [← hw1]; exact Blk.new W _ _
  have c0 : w1.cell? ⟨W.heap.size, 0, none⟩ = some (.bool cp) := b1.cell 0 rfl
  have c1 : w1.cell? ⟨W.heap.size, 1, none⟩ = some (.int .i64 i) := b1.cell 1 rfl
  have c2 : w1.cell? ⟨W.heap.size, 2, none⟩ = some (.bool m) := b1.cell 2 rfl
  have hR := Lib.hid (h.step k1)
  have hr1 := hr.below k1 (Nat.le_refl _)
  have HR := Lib.hid hr1
  have HO := Lib.hid ho
  obtain ⟨va, vc, rfl, _⟩ := hr.len
  have z1 := k1.size
  have l1 : (L.length : Int) ≤ 4096 := by omega
  have k1' : Tur lo hi W w1 := Tur.of_below k1
  cases cp with
  | true =>
    have HL := Lib.hid (show actL L true i m = L by unfold actL; rfl)
    clear h hr ho hr1
    go_enter Tryd.func26, Tryd.ntmps26
    go_wp2_with fail
    refine (Copy_ok hR.out.sh hfew).mono ?_; rintro e w2 ⟨c, rfl, hS, k2⟩
    have hR2 := hR.out.step k2
    go_wp2_with fail
    go_ret3
    rw [HL.out]
    exact ⟨_, _, _, _, rfl, ⟨hS, hR2.bel, hR.out.big, hR2.big, hR2.few⟩, (HR.out.below k2 z1).mono (Nat.le_trans z1 k2.size), HR.out.offLow (bvals_len _) z1, k1'.trans (Tur.of_below k2), .inr z1, .inl rfl⟩
  | false =>
    cases hin : inI L.length i with
    | false =>
      have HL := Lib.hid (show actL L false i m = L by unfold actL; rw [hin]; rfl)
      have hnb : i < 0 ∨ (L.length : Int) ≤ i := by have := of_decide_eq_false hin; omega
      have HSet := Lib.hid (Set_no hR.out.sh i m hin)
      have HHas := Lib.hid (has_ok (i := i) (d := false) hR.out (by unfold hasB; rw [hin]; rfl))
      clear h hr ho hr1 hin
      by_cases hneg : i < 0
      · clear hnb
        go_enter Tryd.func26, Tryd.ntmps26
        go_wp2_with fail
        refine HSet.out.mono ?_; rintro e _ ⟨rfl, rfl⟩
        go_wp2_with fail
        refine (num_calls _ _).mono ?_; rintro e _ ⟨rfl, rfl⟩
        go_wp2_with fail
        refine HHas.out.mono ?_; rintro e w2 ⟨rfl, k2⟩
        have hR2 := hR.out.step k2
        go_wp2_with fail
        go_ret3
        rw [HL.out]
        exact ⟨_, _, _, _, rfl, hR2, (HR.out.below k2 z1).mono (Nat.le_trans z1 k2.size), HO.out, k1'.trans (Tur.of_below k2), .inl ⟨rfl, rfl⟩, .inl rfl⟩
      · have hge : (L.length : Int) ≤ i := by omega
        clear hnb
        go_enter Tryd.func26, Tryd.ntmps26
        go_wp2_with fail
        refine HSet.out.mono ?_; rintro e _ ⟨rfl, rfl⟩
        go_wp2_with fail
        refine (num_calls _ _).mono ?_; rintro e _ ⟨rfl, rfl⟩
        go_wp2_with fail
        refine HHas.out.mono ?_; rintro e w2 ⟨rfl, k2⟩
        have hR2 := hR.out.step k2
        go_wp2_with fail
        go_ret3
        rw [HL.out]
        exact ⟨_, _, _, _, rfl, hR2, (HR.out.below k2 z1).mono (Nat.le_trans z1 k2.size), HO.out, k1'.trans (Tur.of_below k2), .inl ⟨rfl, rfl⟩, .inl rfl⟩
    | true =>
      obtain ⟨k, rfl, hk⟩ := inI_true hin
      obtain ⟨L', hL'⟩ : ∃ L', L.set k m = L' := ⟨_, rfl⟩
      have hl' : L'.length = L.length := by rw [← hL', List.length_set]
      have HL := Lib.hid (show actL L false k m = L' by unfold actL; rw [hin, Int.toNat_natCast]; exact hL')
      obtain ⟨d, hd⟩ : ∃ d, L.getD k false = d := ⟨_, rfl⟩
      obtain ⟨vb, vo, hva, hvb, q⟩ := HR.out.getb k hk
      subst hva
      rw [hd] at q
      have HSet := Lib.hid (set_at (v := m) hR.out hk hd hL')
      have hg' : hasB L' k = m := by rw [hasB_at (by rw [hl']; exact hk), ← hL', List.getD_eq_getElem?_getD, List.getElem?_set_self hk]; rfl
      have HH := Lib.hid hg'
      have HLen := Lib.hid hl'
      have HWith := Lib.hid (fun (Y : World) (hy : RowAt W.heap.size Y (.slice (some ⟨vb, vo, none⟩) L.length vc) L.length (bvals L)) (hz : W.heap.size ≤ Y.heap.size) => With_ok _ L W.heap.size k m Y hz hfew hk hy)
      rw [hL'] at HWith
      have i0 : (0 : Int) ≤ k := by omega
      have i1 : (k : Int) < L.length := by omega
      clear h hr ho hr1 hin hd hL' hg' hl'
      go_enter Tryd.func26, Tryd.ntmps26
      go_wp2_with fail
      refine HSet.out.mono ?_; rintro e w2 ⟨rfl, hR2, hT2⟩
      have hoff := HO.out
      have e1 : BoxS W.heap.size false k m vb (vo + k) d w2 := by
        have nb : ∀ o v9, w1.cell? ⟨W.heap.size, o, none⟩ = some v9 → w2.cell? ⟨W.heap.size, o, none⟩ = some v9 := fun o v9 hc =>
          (World.cell?_of_block (a := ⟨W.heap.size, o, none⟩) (hT2.block W.heap.size (World.block_lt_of_cell? w1 _ hc) (.inr hh))).trans hc
        refine ⟨nb _ _ c0, nb _ _ c1, nb _ _ c2, ?_⟩
        exact (World.cell?_of_block (a := ⟨vb, vo + k, none⟩) (hT2.block vb (World.block_lt_of_cell? w1 _ q) (hoff vb vo L.length vc rfl (by omega)))).trans q
      have HR2 := Lib.hid hR2
      have HV2 := Lib.hid (hT2.row HR.out hoff (bvals_len _))
      have z2 := hT2.size
      have d1 := e1.c1
      clear hR2 c0 c1 c2 q hoff
      go_wp2_with fail
      refine wp_region_held_drew (S := BoxS W.heap.size false k m vb (vo + k) d) (by kernel_rfl) ⟨e1.c0, e1.c1, e1.c2, e1.q⟩ (fun hHeld => ?_)
      refine wpAnyH_take (i := 0) (v := ?_) rfl (by kernel_rfl) (by kernel_rfl) (by kernel_rfl) (fun _ _ _ h => h) (Or.inl ⟨by rfl, ?_⟩) (by assumption) ?_
      rotate_left
      · (intro Y hSw; (try dsimp only at hSw); obtain ⟨hS0, hS1, hS2, hS3⟩ := hSw; go_simp; try with_reducible rfl)
      try simp only [Act.put, List.getElem_toArray, List.getElem_cons_zero, List.getElem_cons_succ, List.setIfInBounds_toArray, List.set_cons_zero, List.set_cons_succ]
      refine wpAnyH_take (i := 1) (v := ?_) rfl (by kernel_rfl) (by kernel_rfl) (by kernel_rfl) (fun _ _ _ h => h) (Or.inl ⟨by rfl, ?_⟩) (by assumption) ?_
      rotate_left
      · (intro Y hSw; (try dsimp only at hSw); obtain ⟨hS0, hS1, hS2, hS3⟩ := hSw; go_simp; try with_reducible rfl)
      try simp only [Act.put, List.getElem_toArray, List.getElem_cons_zero, List.getElem_cons_succ, List.setIfInBounds_toArray, List.set_cons_zero, List.set_cons_succ]
      refine wpAnyH_take (i := 2) (v := ?_) rfl (by kernel_rfl) (by kernel_rfl) (by kernel_rfl) (fun _ _ _ h => h) (Or.inl ⟨by rfl, ?_⟩) (by assumption) ?_
      rotate_left
      · (intro Y hSw; (try dsimp only at hSw); obtain ⟨hS0, hS1, hS2, hS3⟩ := hSw; go_simp; try with_reducible rfl)
      try simp only [Act.put, List.getElem_toArray, List.getElem_cons_zero, List.getElem_cons_succ, List.setIfInBounds_toArray, List.set_cons_zero, List.set_cons_succ]
      refine wpAnyH_take (i := 3) (v := ?_) rfl (by kernel_rfl) (by kernel_rfl) (by kernel_rfl) (fun _ _ _ h => h) (Or.inl ⟨by rfl, ?_⟩) (by assumption) ?_
      rotate_left
      · (intro Y hSw; (try dsimp only at hSw); obtain ⟨hS0, hS1, hS2, hS3⟩ := hSw; go_simp; try with_reducible rfl)
      try simp only [Act.put, List.getElem_toArray, List.getElem_cons_zero, List.getElem_cons_succ, List.setIfInBounds_toArray, List.set_cons_zero, List.set_cons_succ]
      refine wpAnyH_take (i := 4) (v := ?_) rfl (by kernel_rfl) (by kernel_rfl) (by kernel_rfl) (fun _ _ _ h => h) (Or.inl ⟨by rfl, ?_⟩) (by assumption) ?_
      rotate_left
      · (intro Y hSw; (try dsimp only at hSw); obtain ⟨hS0, hS1, hS2, hS3⟩ := hSw; go_simp; try with_reducible rfl)
      try simp only [Act.put, List.getElem_toArray, List.getElem_cons_zero, List.getElem_cons_succ, List.setIfInBounds_toArray, List.set_cons_zero, List.set_cons_succ]
      refine wpAnyH_take (i := 5) (v := ?_) rfl (by kernel_rfl) (by kernel_rfl) (by kernel_rfl) (fun _ _ _ h => h) (Or.inl ⟨by rfl, ?_⟩) (by assumption) ?_
      rotate_left
      · (intro Y hSw; (try dsimp only at hSw); obtain ⟨hS0, hS1, hS2, hS3⟩ := hSw; go_simp; try with_reducible rfl)
      try simp only [Act.put, List.getElem_toArray, List.getElem_cons_zero, List.getElem_cons_succ, List.setIfInBounds_toArray, List.set_cons_zero, List.set_cons_succ]
      refine wpAnyH_take (i := 7) (v := ?_) rfl (by kernel_rfl) (by kernel_rfl) (by kernel_rfl) (fun _ _ _ h => h) (Or.inl ⟨by rfl, ?_⟩) (by assumption) ?_
      rotate_left
      · (intro Y hSw; (try dsimp only at hSw); obtain ⟨hS0, hS1, hS2, hS3⟩ := hSw; go_simp; try with_reducible rfl)
      try simp only [Act.put, List.getElem_toArray, List.getElem_cons_zero, List.getElem_cons_succ, List.setIfInBounds_toArray, List.set_cons_zero, List.set_cons_succ]
      refine wpAnyH_take (i := 8) (v := ?_) rfl (by kernel_rfl) (by kernel_rfl) (by kernel_rfl) (fun _ _ _ h => h) (Or.inl ⟨by rfl, ?_⟩) (by assumption) ?_
      rotate_left
      · (intro Y hSw; (try dsimp only at hSw); obtain ⟨hS0, hS1, hS2, hS3⟩ := hSw; go_simp; try with_reducible rfl)
      try simp only [Act.put, List.getElem_toArray, List.getElem_cons_zero, List.getElem_cons_succ, List.setIfInBounds_toArray, List.set_cons_zero, List.set_cons_succ]
      refine wpAnyH_take (i := 9) (v := ?_) rfl (by kernel_rfl) (by kernel_rfl) (by kernel_rfl) (fun _ _ _ h => h) (Or.inl ⟨by rfl, ?_⟩) (by assumption) ?_
      rotate_left
      · (intro Y hSw; (try dsimp only at hSw); obtain ⟨hS0, hS1, hS2, hS3⟩ := hSw; go_simp; try with_reducible rfl)
      try simp only [Act.put, List.getElem_toArray, List.getElem_cons_zero, List.getElem_cons_succ, List.setIfInBounds_toArray, List.set_cons_zero, List.set_cons_succ]
      refine wpAnyH_take (i := 10) (v := ?_) rfl (by kernel_rfl) (by kernel_rfl) (by kernel_rfl) (fun _ _ _ h => h) (Or.inl ⟨by rfl, ?_⟩) (by assumption) ?_
      rotate_left
      · (intro Y hSw; (try dsimp only at hSw); obtain ⟨hS0, hS1, hS2, hS3⟩ := hSw; go_simp; try with_reducible rfl)
      try simp only [Act.put, List.getElem_toArray, List.getElem_cons_zero, List.getElem_cons_succ, List.setIfInBounds_toArray, List.set_cons_zero, List.set_cons_succ]
      refine wpAnyH_take (i := 11) (v := ?_) rfl (by kernel_rfl) (by kernel_rfl) (by kernel_rfl) (fun _ _ _ h => h) (Or.inl ⟨by rfl, ?_⟩) (by assumption) ?_
      rotate_left
      · (intro Y hSw; (try dsimp only at hSw); obtain ⟨hS0, hS1, hS2, hS3⟩ := hSw; go_simp; try with_reducible rfl)
      try simp only [Act.put, List.getElem_toArray, List.getElem_cons_zero, List.getElem_cons_succ, List.setIfInBounds_toArray, List.set_cons_zero, List.set_cons_succ]
      refine wpAnyH_take (i := 12) (v := ?_) rfl (by kernel_rfl) (by kernel_rfl) (by kernel_rfl) (fun _ _ _ h => h) (Or.inl ⟨by rfl, ?_⟩) (by assumption) ?_
      rotate_left
      · (intro Y hSw; (try dsimp only at hSw); obtain ⟨hS0, hS1, hS2, hS3⟩ := hSw; go_simp; try with_reducible rfl)
      try simp only [Act.put, List.getElem_toArray, List.getElem_cons_zero, List.getElem_cons_succ, List.setIfInBounds_toArray, List.set_cons_zero, List.set_cons_succ]
      refine wpAnyH_take (i := 13) (v := ?_) rfl (by kernel_rfl) (by kernel_rfl) (by kernel_rfl) (fun _ _ _ h => h) (Or.inl ⟨by rfl, ?_⟩) (by assumption) ?_
      rotate_left
      · (intro Y hSw; (try dsimp only at hSw); obtain ⟨hS0, hS1, hS2, hS3⟩ := hSw; go_simp; try with_reducible rfl)
      try simp only [Act.put, List.getElem_toArray, List.getElem_cons_zero, List.getElem_cons_succ, List.setIfInBounds_toArray, List.set_cons_zero, List.set_cons_succ]
      have E1 := e1.step (Below.refl _ w2).drew
      refine wpAnyH_ready (rs := [6]) (by kernel_rfl) (by simp) ?_
      refine AllReadyH.cons rfl (fun K hK => ?_) AllReadyH.nil
      go_simp
      refine (HWith.out w2.drew (HV2.out.below (Below.refl _ w2).drew (Nat.le_trans z1 z2)) (Nat.le_trans z1 z2)).mono ?_; rintro e w3 ⟨v3, rfl, o3, k3⟩
      have K3 : Below w2.heap.size w2 w3 := (Below.refl _ w2).drew.trans k3
      have E3 := E1.step k3
      have R3 := Lib.hid (HR2.out.step K3)
      have hF : FarV w2.heap.size v3 := FarV.of_owns o3
      have HF := Lib.hid hF
      have r3 : RowAt w3.heap.size w3 v3 L.length (bvals L') := RowAt.of_owns o3 (Nat.le_refl _)
      obtain ⟨pa, pc, rfl, _⟩ := r3.len
      have HR3 := Lib.hid r3
      clear o3 r3 hF k3
      go_simp
      refine hK.out _ _ (E3) (fun hHeld => ?_)
      clear hK K
      try simp only [Act.put, List.getElem_toArray, List.getElem_cons_zero, List.getElem_cons_succ, List.setIfInBounds_toArray, List.set_cons_zero, List.set_cons_succ]
      refine wpAnyH_take (i := 14) (v := ?_) rfl (by kernel_rfl) (by kernel_rfl) (by kernel_rfl) (fun _ _ _ h => h) (Or.inl ⟨by rfl, ?_⟩) (by assumption) ?_
      rotate_left
      · (intro Y hSw; (try dsimp only at hSw); obtain ⟨hS0, hS1, hS2, hS3⟩ := hSw; go_simp; try with_reducible rfl)
      try simp only [Act.put, List.getElem_toArray, List.getElem_cons_zero, List.getElem_cons_succ, List.setIfInBounds_toArray, List.set_cons_zero, List.set_cons_succ]
      refine wpAnyH_take (i := 15) (v := ?_) rfl (by kernel_rfl) (by kernel_rfl) (by kernel_rfl) (fun _ _ _ h => h) (Or.inl ⟨by rfl, ?_⟩) (by assumption) ?_
      rotate_left
      · (intro Y hSw; (try dsimp only at hSw); obtain ⟨hS0, hS1, hS2, hS3⟩ := hSw; go_simp; try with_reducible rfl)
      try simp only [Act.put, List.getElem_toArray, List.getElem_cons_zero, List.getElem_cons_succ, List.setIfInBounds_toArray, List.set_cons_zero, List.set_cons_succ]
      refine wpAnyH_ready (rs := [16]) (by kernel_rfl) (by simp) ?_
      refine AllReadyH.cons rfl (fun K hK => ?_) AllReadyH.nil
      go_simp
      refine (num_calls _ _).mono ?_; rintro e _ ⟨rfl, rfl⟩
      go_simp
      refine hK.out _ _ (E3) (fun hHeld => ?_)
      clear hK K
      try simp only [Act.put, List.getElem_toArray, List.getElem_cons_zero, List.getElem_cons_succ, List.setIfInBounds_toArray, List.set_cons_zero, List.set_cons_succ]
      refine wpAnyH_take (i := 17) (v := ?_) rfl (by kernel_rfl) (by kernel_rfl) (by kernel_rfl) (fun _ _ _ h => h) (Or.inl ⟨by rfl, ?_⟩) (by assumption) ?_
      rotate_left
      · (intro Y hSw; (try dsimp only at hSw); obtain ⟨hS0, hS1, hS2, hS3⟩ := hSw; go_simp; try with_reducible rfl)
      try simp only [Act.put, List.getElem_toArray, List.getElem_cons_zero, List.getElem_cons_succ, List.setIfInBounds_toArray, List.set_cons_zero, List.set_cons_succ]
      refine wpAnyH_take (i := 18) (v := ?_) rfl (by kernel_rfl) (by kernel_rfl) (by kernel_rfl) (fun _ _ _ h => h) (Or.inl ⟨by rfl, ?_⟩) (by assumption) ?_
      rotate_left
      · (intro Y hSw; (try dsimp only at hSw); obtain ⟨hS0, hS1, hS2, hS3⟩ := hSw; go_simp; try with_reducible rfl)
      try simp only [Act.put, List.getElem_toArray, List.getElem_cons_zero, List.getElem_cons_succ, List.setIfInBounds_toArray, List.set_cons_zero, List.set_cons_succ]
      refine wpAnyH_take (i := 19) (v := ?_) rfl (by kernel_rfl) (by kernel_rfl) (by kernel_rfl) (fun _ _ _ h => h) (Or.inl ⟨by rfl, ?_⟩) (by assumption) ?_
      rotate_left
      · (intro Y hSw; (try dsimp only at hSw); obtain ⟨hS0, hS1, hS2, hS3⟩ := hSw; go_simp; try with_reducible rfl)
      try simp only [Act.put, List.getElem_toArray, List.getElem_cons_zero, List.getElem_cons_succ, List.setIfInBounds_toArray, List.set_cons_zero, List.set_cons_succ]
      refine wpAnyH_take (i := 20) (v := ?_) rfl (by kernel_rfl) (by kernel_rfl) (by kernel_rfl) (fun _ _ _ h => h) (Or.inl ⟨by rfl, ?_⟩) (by assumption) ?_
      rotate_left
      · (intro Y hSw; (try dsimp only at hSw); obtain ⟨hS0, hS1, hS2, hS3⟩ := hSw; go_simp; try with_reducible rfl)
      try simp only [Act.put, List.getElem_toArray, List.getElem_cons_zero, List.getElem_cons_succ, List.setIfInBounds_toArray, List.set_cons_zero, List.set_cons_succ]
      refine wpAnyH_take (i := 21) (v := ?_) rfl (by kernel_rfl) (by kernel_rfl) (by kernel_rfl) (fun _ _ _ h => h) (Or.inl ⟨by rfl, ?_⟩) (by assumption) ?_
      rotate_left
      · (intro Y hSw; (try dsimp only at hSw); obtain ⟨hS0, hS1, hS2, hS3⟩ := hSw; go_simp; try with_reducible rfl)
      try simp only [Act.put, List.getElem_toArray, List.getElem_cons_zero, List.getElem_cons_succ, List.setIfInBounds_toArray, List.set_cons_zero, List.set_cons_succ]
      refine wpAnyH_take (i := 22) (v := ?_) rfl (by kernel_rfl) (by kernel_rfl) (by kernel_rfl) (fun _ _ _ h => h) (Or.inl ⟨by rfl, ?_⟩) (by assumption) ?_
      rotate_left
      · (intro Y hSw; (try dsimp only at hSw); obtain ⟨hS0, hS1, hS2, hS3⟩ := hSw; go_simp; try with_reducible rfl)
      try simp only [Act.put, List.getElem_toArray, List.getElem_cons_zero, List.getElem_cons_succ, List.setIfInBounds_toArray, List.set_cons_zero, List.set_cons_succ]
      refine wpAnyH_take (i := 24) (v := ?_) rfl (by kernel_rfl) (by kernel_rfl) (by kernel_rfl) (fun _ _ _ h => h) (Or.inl ⟨by rfl, ?_⟩) (by assumption) ?_
      rotate_left
      · (intro Y hSw; (try dsimp only at hSw); obtain ⟨hS0, hS1, hS2, hS3⟩ := hSw; go_simp; try with_reducible rfl)
      try simp only [Act.put, List.getElem_toArray, List.getElem_cons_zero, List.getElem_cons_succ, List.setIfInBounds_toArray, List.set_cons_zero, List.set_cons_succ]
      refine wpAnyH_take (i := 25) (v := ?_) rfl (by kernel_rfl) (by kernel_rfl) (by kernel_rfl) (fun _ _ _ h => h) (Or.inl ⟨by rfl, ?_⟩) (by assumption) ?_
      rotate_left
      · (intro Y hSw; (try dsimp only at hSw); obtain ⟨hS0, hS1, hS2, hS3⟩ := hSw; go_simp; try with_reducible rfl)
      try simp only [Act.put, List.getElem_toArray, List.getElem_cons_zero, List.getElem_cons_succ, List.setIfInBounds_toArray, List.set_cons_zero, List.set_cons_succ]
      refine wpAnyH_ready (rs := [23]) (by kernel_rfl) (by simp) ?_
      refine AllReadyH.cons rfl (fun K hK => ?_) AllReadyH.nil
      go_simp
      refine (has_ok R3.out HH.out).mono ?_; rintro e w4 ⟨rfl, k4⟩
      have E4 := E3.step k4
      go_simp
      refine hK.out _ _ (E4) (fun hHeld => ?_)
      clear hK K
      try simp only [Act.put, List.getElem_toArray, List.getElem_cons_zero, List.getElem_cons_succ, List.setIfInBounds_toArray, List.set_cons_zero, List.set_cons_succ]
      refine wpAnyH_take (i := 26) (v := ?_) rfl (by kernel_rfl) (by kernel_rfl) (by kernel_rfl) (fun _ _ _ h => h) (Or.inl ⟨by rfl, ?_⟩) (by assumption) ?_
      rotate_left
      · (intro Y hSw; (try dsimp only at hSw); obtain ⟨hS0, hS1, hS2, hS3⟩ := hSw; go_simp; try with_reducible rfl)
      try simp only [Act.put, List.getElem_toArray, List.getElem_cons_zero, List.getElem_cons_succ, List.setIfInBounds_toArray, List.set_cons_zero, List.set_cons_succ]
      refine wpAnyH_take (i := 27) (v := ?_) rfl (by kernel_rfl) (by kernel_rfl) (by kernel_rfl) (fun _ _ _ h => h) (Or.inl ⟨by rfl, ?_⟩) (by assumption) ?_
      rotate_left
      · (intro Y hSw; (try dsimp only at hSw); obtain ⟨hS0, hS1, hS2, hS3⟩ := hSw; go_simp; try with_reducible rfl)
      try simp only [Act.put, List.getElem_toArray, List.getElem_cons_zero, List.getElem_cons_succ, List.setIfInBounds_toArray, List.set_cons_zero, List.set_cons_succ]
      refine wpAnyH_take (i := 28) (v := ?_) rfl (by kernel_rfl) (by kernel_rfl) (by kernel_rfl) (fun _ _ _ h => h) (Or.inl ⟨by rfl, ?_⟩) (by assumption) ?_
      rotate_left
      · (intro Y hSw; (try dsimp only at hSw); obtain ⟨hS0, hS1, hS2, hS3⟩ := hSw; go_simp; try with_reducible rfl)
      try simp only [Act.put, List.getElem_toArray, List.getElem_cons_zero, List.getElem_cons_succ, List.setIfInBounds_toArray, List.set_cons_zero, List.set_cons_succ]
      refine wpAnyH_take (i := 29) (v := ?_) rfl (by kernel_rfl) (by kernel_rfl) (by kernel_rfl) (fun _ _ _ h => h) (Or.inl ⟨by rfl, ?_⟩) (by assumption) ?_
      rotate_left
      · (intro Y hSw; (try dsimp only at hSw); obtain ⟨hS0, hS1, hS2, hS3⟩ := hSw; go_simp; try with_reducible rfl)
      try simp only [Act.put, List.getElem_toArray, List.getElem_cons_zero, List.getElem_cons_succ, List.setIfInBounds_toArray, List.set_cons_zero, List.set_cons_succ]
      refine wpAnyH_take (i := 30) (v := ?_) rfl (by kernel_rfl) (by kernel_rfl) (by kernel_rfl) (fun _ _ _ h => h) (Or.inl ⟨by rfl, ?_⟩) (by assumption) ?_
      rotate_left
      · (intro Y hSw; (try dsimp only at hSw); obtain ⟨hS0, hS1, hS2, hS3⟩ := hSw; go_simp; try with_reducible rfl)
      try simp only [Act.put, List.getElem_toArray, List.getElem_cons_zero, List.getElem_cons_succ, List.setIfInBounds_toArray, List.set_cons_zero, List.set_cons_succ]
      refine wpAnyH_done (by kernel_rfl) ?_ _
      go_wp2_with fail
      go_ret3
      rw [HL.out]
      exact ⟨_, _, _, _, rfl, R3.out.step k4, by rw [HLen.out]; exact (HR3.out.below k4 (Nat.le_refl _)).mono k4.size, HF.out.off (by omega), (k1'.trans hT2).trans (Tur.of_below (K3.trans (k4.mono K3.size))), .inl ⟨rfl, rfl⟩, .inr (HF.out.mono (by omega))⟩
end Go.Proofs.YtbkegknfmcanaaaDoor
