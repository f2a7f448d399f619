/-
  Package pinfoldlaw08: is. Conditions: a table, the document's rows beside it.
-/
import Derived.Test.YtchepkihlnpfeaaPgR
import Derived.Test.YtchepkihlnpfeaaPgN
namespace Go.Proofs.Ytchepkihlnpfeaa
open Go.RowKit
attribute [local go_sem] Oper.semAt_some
set_option maxHeartbeats 4000000
set_option maxRecDepth 8000

/-- Rows of owners below o. -/
def belO (D : Tb) (o : Int) : Nat := (D.filter fun x => decide (x.2.o < o)).length
theorem belO_step (D : Tb) (o : Int) : belO D (o + 1) = belO D o + (ofR D o).length := by
  unfold belO ofR
  induction D with
  | nil => rfl
  | cons x D ih =>
    rw [List.filter_cons, List.filter_cons, List.filter_cons]
    by_cases h : x.2.o < o
    · rw [if_pos (by simpa using (by omega : x.2.o < o + 1)), if_pos (by simpa using h), if_neg (by simpa using (by omega : ¬ x.2.o = o))]
      simp only [List.length_cons]; omega
    · by_cases h2 : x.2.o = o
      · rw [if_pos (by simpa using (by omega : x.2.o < o + 1)), if_neg (by simpa using h), if_pos (by simpa using h2)]
        simp only [List.length_cons]; omega
      · rw [if_neg (by simpa using (by omega : ¬ x.2.o < o + 1)), if_neg (by simpa using h), if_neg (by simpa using h2)]
        exact ih
theorem belO_lo (D : Tb) (hg : Good D) : belO D (-2) = 0 := by
  unfold belO
  rw [List.filter_eq_nil_iff.2 fun x hx => by have := hg.en x hx; simpa using (by omega : -2 ≤ x.2.o)]
  rfl
theorem belO_hi (D : Tb) (hg : Good D) : belO D 65 = D.length := by
  unfold belO
  rw [List.filter_eq_self.2 fun x hx => by have := hg.en x hx; simpa using (by omega : x.2.o < 65)]
theorem belO_le (D : Tb) (o : Int) : belO D o ≤ D.length := List.length_filter_le _ _
structure IsS (b1 o1 g s : Nat) (v : Value) (x : Int × Ent) (Y : World) : Prop where
  t : Y.cell? ⟨s, 0, none⟩ = some v
  q : RowC Y b1 o1 x
  g0 : Y.cell? ⟨g, 0, none⟩ = some (.int .i64 x.2.o)
  g1 : Y.cell? ⟨g, 1, none⟩ = some (.int .i64 x.2.m)
  g2 : Y.cell? ⟨g, 2, none⟩ = some (.int .i64 x.2.f)
structure IsI (w W : World) (b m s : Nat) (a1 : Option Addr) (c1 : Nat) (D : Tb) : Prop where
  t : TblAt W b m D
  x : Blk W s #[.slice a1 D.length c1] 28
  r : RowAt s W (.slice a1 D.length c1) D.length (rowT D)
  k : Below s w W
  z : s < W.heap.size
theorem IsI.step {w W W' : World} {b m s : Nat} {a1 : Option Addr} {c1 : Nat} {D : Tb} (h : IsI w W b m s a1 c1 D) (k : Below W.heap.size W W') : IsI w W' b m s a1 c1 D :=
  ⟨h.t.step k, h.x.below k h.x.lt, h.r.below k (by have := h.z; omega), h.k.trans (k.mono (by have := h.z; omega)), Nat.lt_of_lt_of_le h.z k.size⟩
theorem is_ok {w : World} {b m : Nat} {D : Tb} {v : Value} (h : TblAt w b m D) (hg : Good D) (hl : D.length ≤ 99) (hv : RowAt w.heap.size w v D.length (rowT D)) :
    Calls Try.prog 15 #[.pointer (some ⟨b, 0, none⟩), .agg #[v]] w fun e w' => e = .returned (.bool true) ∧ Below w.heap.size w w' := by
  obtain ⟨a1, c1, rfl, _⟩ := hv.len
  obtain ⟨w0, hw0⟩ : ∃ w0, w.alloc (.cells #[.slice a1 D.length c1] 28) = w0 := ⟨_, rfl⟩
  have k0 : Below w.heap.size w w0 := by rw [← hw0]; exact (Below.refl _ w).alloc (Nat.le_refl _) _
  have hI0 : IsI w w0 b m w.heap.size a1 c1 D := ⟨h.step k0, by rw [← hw0]; exact Blk.new w _ _, hv.below k0 (Nat.le_refl _), k0, by rw [← hw0]; simp⟩
  obtain ⟨s, hs⟩ : ∃ s, w.heap.size = s := ⟨_, rfl⟩
  have HS := Lib.hid hs
  rw [hs] at hI0
  clear hv h k0
  go_enter Try.func15, Try.ntmps15
  go_wp2_with fail
  clear hw0 hs
  go_loopw [5] (fun i wr => ∃ k : Nat, k ≤ D.length ∧ i = .int .i64 k ∧ IsI w wr b m s a1 c1 D) (fun i _ => D.length - (intOf i).toNat)
  case atStart => exact ⟨0, by omega, rfl, hI0⟩
  case round =>
    obtain ⟨k, hk, rfl, hI⟩ := hrel
    clear hI0
    have ct := hI.x.cell 0 rfl
    by_cases hlt : k < D.length
    · obtain ⟨b1, o1, rfl, _, q⟩ := hI.r.gett k hlt
      have i0 : (0 : Int) ≤ k := by omega
      have i1 : (k : Int) < D.length := by omega
      have hmem : D[k] ∈ D := List.getElem_mem hlt
      have hge : getE D D[k].1 = D[k].2 := by unfold getE; rw [getR_some hg.srt.nodup hmem]; rfl
      have hha : hasR D D[k].1 = true := hasR_mem.2 (List.mem_map_of_mem hmem)
      have hi1 := hI.r
      obtain ⟨⟨xk, xo, xm, xf⟩, hx⟩ : ∃ y, D[k] = y := ⟨_, rfl⟩
      rw [hx] at q hge hha
      dsimp only at hge hha
      clear hx hmem hi1
      have q0 := q.c0
      dsimp only at q0
      go_wp2_with fail
      refine (Get_ok hI.t xk).mono ?_; rintro e w1 ⟨rfl, k1⟩
      rw [hge, hha]
      have I1 := hI.step k1
      have hq1 := q.below k1 (by have := hI.z; omega)
      clear hI q ct q0 k1 hge hha
      obtain ⟨W2, hW2⟩ : ∃ W2, w1.alloc (.cells #[.int .i64 xo, .int .i64 xm, .int .i64 xf] 31) = W2 := ⟨_, rfl⟩
      have k2 : Below w1.heap.size w1 W2 := by rw [← hW2]; exact (Below.refl _ w1).alloc (Nat.le_refl _) _
      have hX : Blk W2 w1.heap.size #[.int .i64 xo, .int .i64 xm, .int .i64 xf] 31 := by rw [← hW2]; exact Blk.new w1 _ _
      have I2 := I1.step k2
      have hq2 := hq1.below k2 (by have := I1.z; omega)
      unfold encE
      go_wp2_with fail
      clear hW2
      have ct2 := I2.x.cell 0 rfl
      refine wp_onlyN ?_
      refine wp_region_held_drew (S := IsS b1 (o1 + k * 4) w1.heap.size s (.slice (some ⟨b1, o1, none⟩) D.length c1) (xk, ⟨xo, xm, xf⟩)) (by kernel_rfl) ⟨ct2, ⟨hq2.c0, hq2.c1, hq2.c2, hq2.c3⟩, hX.cell 0 rfl, hX.cell 1 rfl, hX.cell 2 rfl⟩ (fun hHeld => ?_)
      refine wpAnyH_take (i := 0) (v := ?_) rfl (by kernel_rfl) (by kernel_rfl) (by kernel_rfl) (fun _ _ _ h => h) (Or.inl ⟨by rfl, ?_⟩) (by assumption) ?_
      rotate_left
      · (intro Y hSw; (try dsimp only at hSw); obtain ⟨hS0, ⟨hT0, hT1, hT2, hT3⟩, hS1, hS2, hS3⟩ := hSw; go_simp; try with_reducible rfl)
      try simp only [Act.put, List.getElem_toArray, List.getElem_cons_zero, List.getElem_cons_succ, List.setIfInBounds_toArray, List.set_cons_zero, List.set_cons_succ]
      refine wpAnyH_take (i := 1) (v := ?_) rfl (by kernel_rfl) (by kernel_rfl) (by kernel_rfl) (fun _ _ _ h => h) (Or.inl ⟨by rfl, ?_⟩) (by assumption) ?_
      rotate_left
      · (intro Y hSw; (try dsimp only at hSw); obtain ⟨hS0, ⟨hT0, hT1, hT2, hT3⟩, hS1, hS2, hS3⟩ := hSw; go_simp; try with_reducible rfl)
      try simp only [Act.put, List.getElem_toArray, List.getElem_cons_zero, List.getElem_cons_succ, List.setIfInBounds_toArray, List.set_cons_zero, List.set_cons_succ]
      refine wpAnyH_take (i := 2) (v := ?_) rfl (by kernel_rfl) (by kernel_rfl) (by kernel_rfl) (fun _ _ _ h => h) (Or.inl ⟨by rfl, ?_⟩) (by assumption) ?_
      rotate_left
      · (intro Y hSw; (try dsimp only at hSw); obtain ⟨hS0, ⟨hT0, hT1, hT2, hT3⟩, hS1, hS2, hS3⟩ := hSw; go_simp; try with_reducible rfl)
      try simp only [Act.put, List.getElem_toArray, List.getElem_cons_zero, List.getElem_cons_succ, List.setIfInBounds_toArray, List.set_cons_zero, List.set_cons_succ]
      refine wpAnyH_take (i := 3) (v := ?_) rfl (by kernel_rfl) (by kernel_rfl) (by kernel_rfl) (fun _ _ _ h => h) (Or.inl ⟨by rfl, ?_⟩) (by assumption) ?_
      rotate_left
      · (intro Y hSw; (try dsimp only at hSw); obtain ⟨hS0, ⟨hT0, hT1, hT2, hT3⟩, hS1, hS2, hS3⟩ := hSw; go_simp; try with_reducible rfl)
      try simp only [Act.put, List.getElem_toArray, List.getElem_cons_zero, List.getElem_cons_succ, List.setIfInBounds_toArray, List.set_cons_zero, List.set_cons_succ]
      refine wpAnyH_take (i := 4) (v := ?_) rfl (by kernel_rfl) (by kernel_rfl) (by kernel_rfl) (fun _ _ _ h => h) (Or.inl ⟨by rfl, ?_⟩) (by assumption) ?_
      rotate_left
      · (intro Y hSw; (try dsimp only at hSw); obtain ⟨hS0, ⟨hT0, hT1, hT2, hT3⟩, hS1, hS2, hS3⟩ := hSw; go_simp; try with_reducible rfl)
      try simp only [Act.put, List.getElem_toArray, List.getElem_cons_zero, List.getElem_cons_succ, List.setIfInBounds_toArray, List.set_cons_zero, List.set_cons_succ]
      refine wpAnyH_take (i := 5) (v := ?_) rfl (by kernel_rfl) (by kernel_rfl) (by kernel_rfl) (fun _ _ _ h => h) (Or.inl ⟨by rfl, ?_⟩) (by assumption) ?_
      rotate_left
      · (intro Y hSw; (try dsimp only at hSw); obtain ⟨hS0, ⟨hT0, hT1, hT2, hT3⟩, hS1, hS2, hS3⟩ := hSw; go_simp; try with_reducible rfl)
      try simp only [Act.put, List.getElem_toArray, List.getElem_cons_zero, List.getElem_cons_succ, List.setIfInBounds_toArray, List.set_cons_zero, List.set_cons_succ]
      refine wpAnyH_take (i := 6) (v := ?_) rfl (by kernel_rfl) (by kernel_rfl) (by kernel_rfl) (fun _ _ _ h => h) (Or.inl ⟨by rfl, ?_⟩) (by assumption) ?_
      rotate_left
      · (intro Y hSw; (try dsimp only at hSw); obtain ⟨hS0, ⟨hT0, hT1, hT2, hT3⟩, hS1, hS2, hS3⟩ := hSw; go_simp; try with_reducible rfl)
      try simp only [Act.put, List.getElem_toArray, List.getElem_cons_zero, List.getElem_cons_succ, List.setIfInBounds_toArray, List.set_cons_zero, List.set_cons_succ]
      refine wpAnyH_take (i := 7) (v := ?_) rfl (by kernel_rfl) (by kernel_rfl) (by kernel_rfl) (fun _ _ _ h => h) (Or.inl ⟨by rfl, ?_⟩) (by assumption) ?_
      rotate_left
      · (intro Y hSw; (try dsimp only at hSw); obtain ⟨hS0, ⟨hT0, hT1, hT2, hT3⟩, hS1, hS2, hS3⟩ := hSw; go_simp; try with_reducible rfl)
      try simp only [Act.put, List.getElem_toArray, List.getElem_cons_zero, List.getElem_cons_succ, List.setIfInBounds_toArray, List.set_cons_zero, List.set_cons_succ]
      refine wpAnyH_take (i := 8) (v := ?_) rfl (by kernel_rfl) (by kernel_rfl) (by kernel_rfl) (fun _ _ _ h => h) (Or.inl ⟨by rfl, ?_⟩) (by assumption) ?_
      rotate_left
      · (intro Y hSw; (try dsimp only at hSw); obtain ⟨hS0, ⟨hT0, hT1, hT2, hT3⟩, hS1, hS2, hS3⟩ := hSw; go_simp; try with_reducible rfl)
      try simp only [Act.put, List.getElem_toArray, List.getElem_cons_zero, List.getElem_cons_succ, List.setIfInBounds_toArray, List.set_cons_zero, List.set_cons_succ]
      refine wpAnyH_take (i := 9) (v := ?_) rfl (by kernel_rfl) (by kernel_rfl) (by kernel_rfl) (fun _ _ _ h => h) (Or.inl ⟨by rfl, ?_⟩) (by assumption) ?_
      rotate_left
      · (intro Y hSw; (try dsimp only at hSw); obtain ⟨hS0, ⟨hT0, hT1, hT2, hT3⟩, hS1, hS2, hS3⟩ := hSw; go_simp; try with_reducible rfl)
      try simp only [Act.put, List.getElem_toArray, List.getElem_cons_zero, List.getElem_cons_succ, List.setIfInBounds_toArray, List.set_cons_zero, List.set_cons_succ]
      refine wpAnyH_take (i := 10) (v := ?_) rfl (by kernel_rfl) (by kernel_rfl) (by kernel_rfl) (fun _ _ _ h => h) (Or.inl ⟨by rfl, ?_⟩) (by assumption) ?_
      rotate_left
      · (intro Y hSw; (try dsimp only at hSw); obtain ⟨hS0, ⟨hT0, hT1, hT2, hT3⟩, hS1, hS2, hS3⟩ := hSw; go_simp; try with_reducible rfl)
      try simp only [Act.put, List.getElem_toArray, List.getElem_cons_zero, List.getElem_cons_succ, List.setIfInBounds_toArray, List.set_cons_zero, List.set_cons_succ]
      refine wpAnyH_take (i := 11) (v := ?_) rfl (by kernel_rfl) (by kernel_rfl) (by kernel_rfl) (fun _ _ _ h => h) (Or.inl ⟨by rfl, ?_⟩) (by assumption) ?_
      rotate_left
      · (intro Y hSw; (try dsimp only at hSw); obtain ⟨hS0, ⟨hT0, hT1, hT2, hT3⟩, hS1, hS2, hS3⟩ := hSw; go_simp; try with_reducible rfl)
      try simp only [Act.put, List.getElem_toArray, List.getElem_cons_zero, List.getElem_cons_succ, List.setIfInBounds_toArray, List.set_cons_zero, List.set_cons_succ]
      refine wpAnyH_done (by kernel_rfl) ?_ _
      rw [onlyN_normal]
      have I3 := I2.step (Below.refl _ W2).drew
      clear hHeld ct2 hX hq2 hq1 k2 I2 I1
      generalize W2.drew = W3 at I3 ⊢
      go_wp2_with fail
      exact ⟨⟨k + 1, by omega, by go_num, I3⟩, by simp [intOf]; omega⟩
    · obtain rfl : k = D.length := by omega
      go_wp2_with fail
      have hb2 := belO_lo D hg
      go_loopw [8, 9] (fun n o wr2 => ∃ i : Int, -2 ≤ i ∧ i ≤ 65 ∧ o = .int .i64 i ∧ n = .int .i64 (belO D i) ∧ IsI w wr2 b m s a1 c1 D) (fun _ o _ => (65 - intOf o).toNat)
      case atStart => exact ⟨-2, by omega, by omega, rfl, by rw [hb2]; rfl, hI⟩
      case round =>
        obtain ⟨i, i0, i1, rfl, rfl, hI⟩ := hrel
        rename_i wr2
        have hle := belO_le D i
        by_cases hi : i ≤ 64
        · have hst := belO_step D i
          have hle2 := belO_le D (i + 1)
          have hol := of_len D i
          obtain ⟨n1, hn1⟩ : ∃ n1, belO D i = n1 := ⟨_, rfl⟩
          rw [hn1] at hst hle ⊢
          have HST := Lib.hid hst
          clear hst hn1 hb2 ct
          go_wp2_with fail
          refine (all_ok hI.t.v hg (by omega) i 100 (by omega) (by decide)).mono ?_; rintro e w1 ⟨v1, rfl, o1, k1⟩
          have I1 := hI.step k1
          have r1 : RowAt w1.heap.size w1 v1 (ofR D i).length (rowT (ofR D i)) := RowAt.of_owns o1 (Nat.le_refl _)
          obtain ⟨va, vc, rfl, _⟩ := r1.len
          have R1 := Lib.hid r1
          have ct1 := I1.x.cell 0 rfl
          clear o1 r1 k1 hI
          go_wp2_with fail
          refine (Of_ok (.slice a1 D.length c1) D s i w1 (by have := I1.z; omega) (by omega) I1.r).mono ?_; rintro e w2 ⟨v2, rfl, o2, k2⟩
          have I2 := I1.step k2
          have r2 : RowAt w2.heap.size w2 v2 (ofR D i).length (rowT (ofR D i)) := RowAt.of_owns o2 (Nat.le_refl _)
          obtain ⟨ua, uc, rfl, _⟩ := r2.len
          have R2 := Lib.hid r2
          have R12 := Lib.hid ((R1.out.below k2 (Nat.le_refl _)).mono k2.size)
          clear o2 r2 k2 I1 R1 ct1
          go_wp2_with fail
          refine (rSame_ok _ _ (ofR D i) (ofR D i) w2.heap.size w2 (Nat.le_refl _) (by omega) R12.out R2.out).mono ?_; rintro e w3 ⟨rfl, k3⟩
          have I3 := I2.step k3
          rw [show decide (ofR D i = ofR D i) = true from decide_eq_true rfl]
          clear I2 R12 R2 k3
          go_wp2_with fail
          exact ⟨⟨i + 1, by omega, by omega, by go_num, by rw [HST.out]; go_num, I3⟩, by simp [intOf]; omega⟩
        · obtain rfl : i = 65 := by omega
          rw [belO_hi D hg]
          clear hb2 ct
          have ct := hI.x.cell 0 rfl
          go_wp2_with fail
          refine (Len_ok hI.t).mono ?_; rintro e w1 ⟨rfl, k1⟩
          have I1 := hI.step k1
          have ct1 := I1.x.cell 0 rfl
          clear ct
          go_wp2_with fail
          go_ret
          exact ⟨rfl, by rw [HS.out]; exact I1.k⟩
end Go.Proofs.Ytchepkihlnpfeaa
