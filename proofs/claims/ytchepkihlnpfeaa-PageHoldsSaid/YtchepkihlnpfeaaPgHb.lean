/-
  Package pinfoldlaw08: PageHolds. No condition.
-/
import Derived.Test.YtchepkihlnpfeaaPgHa
namespace Go.Proofs.Ytchepkihlnpfeaa
open Go.RowKit
attribute [local go_sem] Oper.semAt_some
set_option maxHeartbeats 4000000
set_option maxRecDepth 8000

theorem zero_int (w : World) : (zeroValue 3).run Try.prog w = .ok (.int .i64 0) w := by kernel_rfl
def encN (i : Int) : Value := .int .i64 i
structure Hp (w W : World) (b m : Nat) (D : Tb) : Prop where
  t : TblAt W b m D
  g : Good D
  inj : FI D
  k : Below w.heap.size w W
  lo : w.heap.size ≤ m
theorem Hp.step {w W W' : World} {b m : Nat} {D : Tb} (h : Hp w W b m D) (k : Below W.heap.size W W') : Hp w W' b m D := ⟨h.t.step k, h.g, h.inj, h.k.trans (k.mono h.k.size), h.lo⟩
theorem Hp.to {w W W' : World} {b m : Nat} {D E : Tb} (h : Hp w W b m D) (ht : TblAt W' b m E) (k : Chg m W W') (hg : Good E) (hi : FI E) : Hp w W' b m E := ⟨ht, hg, hi, h.k.trans (k.below h.lo h.k.size), h.lo⟩
structure Hf (w W : World) (b m bf : Nat) (D : Tb) (F : List (Int × Int)) : Prop where
  p : Hp w W b m D
  f : MapP encN W bf F
  n1 : b ≠ bf
  n2 : m ≠ bf
  lo : w.heap.size ≤ bf
theorem Hf.step {w W W' : World} {b m bf : Nat} {D : Tb} {F : List (Int × Int)} (h : Hf w W b m bf D F) (k : Below W.heap.size W W') : Hf w W' b m bf D F := ⟨h.p.step k, h.f.step k, h.n1, h.n2, h.lo⟩
theorem Hf.put {w W W' : World} {b m bf : Nat} {D : Tb} {F G : List (Int × Int)} (h : Hf w W b m bf D F) (k : Turn bf W W') (hf : MapP encN W' bf G) : Hf w W' b m bf D G :=
  ⟨⟨⟨h.p.t.blk.turn k h.n1, h.p.t.mp.turn k h.n2⟩, h.p.g, h.p.inj, h.p.k.trans ((Chg.of_turn k).below h.lo h.p.k.size), h.p.lo⟩, hf, h.n1, h.n2, h.lo⟩
theorem Hf.to {w W W' : World} {b m bf : Nat} {D E : Tb} {F : List (Int × Int)} (h : Hf w W b m bf D F) (ht : TblAt W' b m E) (k : Chg m W W') (hg : Good E) (hi : FI E) : Hf w W' b m bf E F :=
  ⟨h.p.to ht k hg hi, h.f.chg k (Ne.symm h.n2), h.n1, h.n2, h.lo⟩
/-- Besides, a copy. -/
structure He (w W : World) (b m bf c mc : Nat) (C D : Tb) (F : List (Int × Int)) : Prop where
  a : Hf w W b m bf D F
  cp : TblAt W c mc C
  n1 : c ≠ m
  n2 : mc ≠ m
theorem He.step {w W W' : World} {b m bf c mc : Nat} {C D : Tb} {F : List (Int × Int)} (h : He w W b m bf c mc C D F) (k : Below W.heap.size W W') : He w W' b m bf c mc C D F := ⟨h.a.step k, h.cp.step k, h.n1, h.n2⟩
theorem He.to {w W W' : World} {b m bf c mc : Nat} {C D E : Tb} {F : List (Int × Int)} (h : He w W b m bf c mc C D F) (ht : TblAt W' b m E) (k : Chg m W W') (hg : Good E) (hi : FI E) : He w W' b m bf c mc C E F :=
  ⟨h.a.to ht k hg hi, ⟨k.blk h.cp.blk h.n1, h.cp.mp.chg k h.n2⟩, h.n1, h.n2⟩
/-- The two boxes. -/
structure Bx (s : Nat) (f1 f3 f4 f5 r0 r1 : Int) (Y : World) : Prop where
  x1 : Y.cell? ⟨s, 1, none⟩ = some (.int .i64 f1)
  x3 : Y.cell? ⟨s, 3, none⟩ = some (.int .i64 f3)
  x4 : Y.cell? ⟨s, 4, none⟩ = some (.int .i64 f4)
  x5 : Y.cell? ⟨s, 5, none⟩ = some (.int .i64 f5)
  y0 : Y.cell? ⟨s + 1, 0, none⟩ = some (.int .i64 r0)
  y1 : Y.cell? ⟨s + 1, 1, none⟩ = some (.int .i64 r1)
structure HdS (ba off : Nat) (a1 a3 a4 a5 : Int) (Y : World) : Prop where
  c1 : Y.cell? ⟨ba, off + 1, none⟩ = some (.int .i64 a1)
  c3 : Y.cell? ⟨ba, off + 3, none⟩ = some (.int .i64 a3)
  c4 : Y.cell? ⟨ba, off + 4, none⟩ = some (.int .i64 a4)
  c5 : Y.cell? ⟨ba, off + 5, none⟩ = some (.int .i64 a5)
theorem holds_body (v0 : Value) (l : List ActV) (x : ActV) (r0 r1 : Int) (w : World) (hv : ActsAt w.heap.size w v0 l) :
    Calls Try.prog 6 #[v0, .agg #[.int .i64 x.f0, .int .i64 x.f1, .int .i64 x.f2, .int .i64 x.f3, .int .i64 x.f4, .int .i64 x.f5], .agg #[.int .i64 r0, .int .i64 r1]] w fun e w' => e = .returned (.bool true) ∧ Below w.heap.size w w' := by
  have HV := Lib.hid hv
  obtain ⟨f0, f1, f2, f3, f4, f5⟩ := x
  dsimp only
  obtain ⟨ad, cap, rfl, hcap, hmx, _⟩ := hv
  have hml : l.length ≤ 9223372036854775807 := by unfold maxLen at hmx; omega
  clear hmx
  obtain ⟨w0, hw0⟩ : ∃ w0, (w.alloc (.cells #[.int .i64 f0, .int .i64 f1, .int .i64 f2, .int .i64 f3, .int .i64 f4, .int .i64 f5] 45)).alloc (.cells #[.int .i64 r0, .int .i64 r1] 58) = w0 := ⟨_, rfl⟩
  have k0 : Below w.heap.size w w0 := by rw [← hw0]; exact ((Below.refl _ w).alloc (Nat.le_refl _) _).alloc (by simp) _
  have hX : Blk w0 w.heap.size #[.int .i64 f0, .int .i64 f1, .int .i64 f2, .int .i64 f3, .int .i64 f4, .int .i64 f5] 45 := by rw [← hw0]; exact (Blk.new w _ _).alloc _
  have hY : Blk w0 (w.heap.size + 1) #[.int .i64 r0, .int .i64 r1] 58 := by rw [← hw0]; exact Blk.newAt _ _ _ (by simp)
  have HB := Lib.hid (fun (Y : World) (k : Below w0.heap.size w0 Y) => (⟨(hX.below k hX.lt).cell 1 rfl, (hX.below k hX.lt).cell 3 rfl, (hX.below k hX.lt).cell 4 rfl, (hX.below k hX.lt).cell 5 rfl, (hY.below k hY.lt).cell 0 rfl, (hY.below k hY.lt).cell 1 rfl⟩ : Bx w.heap.size f1 f3 f4 f5 r0 r1 Y))
  obtain ⟨x1, x3, x4, x5, y0, y1⟩ := HB.out _ (Below.refl _ _)
  have ls0 := hX.lt
  have ls1 := hY.lt
  clear hX hY
  by_cases hbad : 40 < l.length ∨ r0 < 0 ∨ 300 < r0 ∨ r1 < 1 ∨ 100 < r1
  · have hsp : 40 < l.length ∨ (l.length ≤ 40 ∧ r0 < 0) ∨ (l.length ≤ 40 ∧ 0 ≤ r0 ∧ 300 < r0) ∨ (l.length ≤ 40 ∧ 0 ≤ r0 ∧ r0 ≤ 300 ∧ r1 < 1) ∨ (l.length ≤ 40 ∧ 0 ≤ r0 ∧ r0 ≤ 300 ∧ 1 ≤ r1 ∧ 100 < r1) := by omega
    clear hbad
    rcases hsp with h | ⟨h, h2⟩ | ⟨h, h2, h3⟩ | ⟨h, h2, h3, h4⟩ | ⟨h, h2, h3, h4, h5⟩
    · go_enter Try.func6, Try.ntmps6
      go_wp2_with fail
      refine (works_ok _).mono ?_; rintro e w1 ⟨rfl, k⟩
      go_wp2_with fail
      go_ret
      exact ⟨rfl, k0.trans (k.mono k0.size)⟩
    · go_enter Try.func6, Try.ntmps6
      go_wp2_with fail
      refine (works_ok _).mono ?_; rintro e w1 ⟨rfl, k⟩
      go_wp2_with fail
      go_ret
      exact ⟨rfl, k0.trans (k.mono k0.size)⟩
    · go_enter Try.func6, Try.ntmps6
      go_wp2_with fail
      refine (works_ok _).mono ?_; rintro e w1 ⟨rfl, k⟩
      go_wp2_with fail
      go_ret
      exact ⟨rfl, k0.trans (k.mono k0.size)⟩
    · go_enter Try.func6, Try.ntmps6
      go_wp2_with fail
      refine (works_ok _).mono ?_; rintro e w1 ⟨rfl, k⟩
      go_wp2_with fail
      go_ret
      exact ⟨rfl, k0.trans (k.mono k0.size)⟩
    · go_enter Try.func6, Try.ntmps6
      go_wp2_with fail
      refine (works_ok _).mono ?_; rintro e w1 ⟨rfl, k⟩
      go_wp2_with fail
      go_ret
      exact ⟨rfl, k0.trans (k.mono k0.size)⟩
  have hl40 : l.length ≤ 40 := by omega
  have g0 : 0 ≤ r0 := by omega
  have g1 : r0 ≤ 300 := by omega
  have g2 : 1 ≤ r1 := by omega
  have g3 : r1 ≤ 100 := by omega
  clear hbad
  go_enter Try.func6, Try.ntmps6
  go_wp2_with fail
  clear hw0
  refine (New_calls _).mono ?_; rintro e W ⟨b, m, rfl, ht, hlo, _, kk⟩
  have h0 : Hp w0 W b m [] := ⟨ht, Good.nil, FI.nil, kk, hlo⟩
  clear ht hlo kk x1 x3 x4 x5 y0 y1
  go_wp2_with fail
  go_loopw [8] (fun i wr => ∃ (k : Nat) (D : Tb), k ≤ l.length ∧ D.length ≤ k ∧ i = .int .i64 k ∧ Hp w0 wr b m D) (fun i _ => l.length - (intOf i).toNat)
  case atStart => exact ⟨0, _, by omega, by simp, rfl, h0⟩
  case round =>
    obtain ⟨k, D, hk, hDk, rfl, hH⟩ := hrel
    rename_i wr
    clear h0
    by_cases hlt : k < l.length
    · obtain ⟨ba, off, rfl, hA⟩ : ∃ b off, ad = some ⟨b, off, none⟩ ∧ ∀ i (h : i < l.length), ActAt w.heap.size w b (off + i * 6) l[i] := by
        obtain ⟨_, _, hv, _, _, h⟩ := HV.out
        simp only [Value.slice.injEq] at hv
        obtain ⟨rfl, _⟩ := hv
        rcases h with h | h
        · rw [h] at hlt; simp at hlt
        · exact h
      have hAk := hA k hlt
      clear hA
      obtain ⟨y, hy⟩ : ∃ y, l[k] = y := ⟨_, rfl⟩
      rw [hy] at hAk
      clear hy
      have hAb := (hAk.below k0 (Nat.le_refl _)).below hH.k k0.size
      have HQ := Lib.hid (fun (Y : World) (j : Below w0.heap.size w0 Y) => (⟨((hAk.below k0 (Nat.le_refl _)).below j k0.size).c1, ((hAk.below k0 (Nat.le_refl _)).below j k0.size).c3, ((hAk.below k0 (Nat.le_refl _)).below j k0.size).c4, ((hAk.below k0 (Nat.le_refl _)).below j k0.size).c5⟩ : HdS ba (off + k * 6) y.f1 y.f3 y.f4 y.f5 Y))
      obtain ⟨E, hE⟩ : ∃ E, holdD D y = E := ⟨_, rfl⟩
      have hEl : E.length ≤ k + 1 := by rw [← hE]; have := holdD_len D y; omega
      have hEg : Good E := by rw [← hE]; exact hH.g.hold y
      have hEi : FI E := by rw [← hE]; exact hH.inj.hold hH.g.srt y
      obtain ⟨a0, a1, a2, a3, a4, a5⟩ := y
      obtain ⟨q0, q1, q2, q3, q4, q5, _, _, _, _, _, _, hblt⟩ := hAb
      dsimp only at q0 q1 q2 q3 q4 q5 HQ
      have hlD : D.length ≤ 1000 := by omega
      have i0 : (0 : Int) ≤ k := by omega
      have i1 : (k : Int) < l.length := by omega
      have qq : wr.cell? ⟨ba, off + k * 6 + 0, none⟩ = some (.int .i64 a0) := q0
      clear hAk
      by_cases c1 : a0 = 1
      · subst c1
        have hD : unmD D a1 = E := by rw [← hE]; rfl
        have HU := Lib.hid (fun (Y : World) (h : TblAt Y b m D) => Unmap_ok h hH.g.srt a1)
        rw [hD] at HU
        clear hE hD
        go_wp2_with fail
        refine (HU.out wr hH.t).mono ?_; rintro e Z ⟨rfl, hz, kz⟩
        have hH2 := hH.to hz kz hEg hEi
        go_wp2_with fail
        exact ⟨⟨k + 1, E, by omega, by omega, by go_num, hH2⟩, by simp [intOf]; omega⟩
      by_cases c2 : a0 = 2
      · subst c2
        have hD : proD D a1 a4 = E := by rw [← hE]; rfl
        have HU := Lib.hid (fun (Y : World) (h : TblAt Y b m D) => Protect_ok h hH.g.srt a1 a4)
        rw [hD] at HU
        clear hE hD
        go_wp2_with fail
        refine wp_onlyN ?_
        refine wp_region_held_drew (S := HdS ba (off + k * 6) a1 a3 a4 a5) (by kernel_rfl) ⟨q1, q3, q4, q5⟩ (fun hHeld => ?_)
        have hH2 := hH.step (Below.refl _ wr).drew
        clear hH q0 q1 q2 q3 q4 q5 qq
        change wpAnyH _ _ _ _ _ _ _ _ wr.drew
        generalize wr.drew = Y at hH2 hHeld ⊢
        refine wpAnyH_take (i := 0) (v := ?_) rfl (by kernel_rfl) (by kernel_rfl) (by kernel_rfl) (fun _ _ _ h => h) (Or.inl ⟨by rfl, ?_⟩) (by assumption) ?_
        rotate_left
        · (intro Y hSw; (try dsimp only at hSw); obtain ⟨hS0, hS1, hS2, hS3⟩ := hSw; go_simp; try with_reducible rfl)
        try simp only [Act.put, List.getElem_toArray, List.getElem_cons_zero, List.getElem_cons_succ, List.setIfInBounds_toArray, List.set_cons_zero, List.set_cons_succ]
        refine wpAnyH_take (i := 1) (v := ?_) rfl (by kernel_rfl) (by kernel_rfl) (by kernel_rfl) (fun _ _ _ h => h) (Or.inl ⟨by rfl, ?_⟩) (by assumption) ?_
        rotate_left
        · (intro Y hSw; (try dsimp only at hSw); obtain ⟨hS0, hS1, hS2, hS3⟩ := hSw; go_simp; try with_reducible rfl)
        try simp only [Act.put, List.getElem_toArray, List.getElem_cons_zero, List.getElem_cons_succ, List.setIfInBounds_toArray, List.set_cons_zero, List.set_cons_succ]
        refine wpAnyH_take (i := 2) (v := ?_) rfl (by kernel_rfl) (by kernel_rfl) (by kernel_rfl) (fun _ _ _ h => h) (Or.inl ⟨by rfl, ?_⟩) (by assumption) ?_
        rotate_left
        · (intro Y hSw; (try dsimp only at hSw); obtain ⟨hS0, hS1, hS2, hS3⟩ := hSw; go_simp; try with_reducible rfl)
        try simp only [Act.put, List.getElem_toArray, List.getElem_cons_zero, List.getElem_cons_succ, List.setIfInBounds_toArray, List.set_cons_zero, List.set_cons_succ]
        refine wpAnyH_take (i := 3) (v := ?_) rfl (by kernel_rfl) (by kernel_rfl) (by kernel_rfl) (fun _ _ _ h => h) (Or.inl ⟨by rfl, ?_⟩) (by assumption) ?_
        rotate_left
        · (intro Y hSw; (try dsimp only at hSw); obtain ⟨hS0, hS1, hS2, hS3⟩ := hSw; go_simp; try with_reducible rfl)
        try simp only [Act.put, List.getElem_toArray, List.getElem_cons_zero, List.getElem_cons_succ, List.setIfInBounds_toArray, List.set_cons_zero, List.set_cons_succ]
        refine wpAnyH_take (i := 4) (v := ?_) rfl (by kernel_rfl) (by kernel_rfl) (by kernel_rfl) (fun _ _ _ h => h) (Or.inl ⟨by rfl, ?_⟩) (by assumption) ?_
        rotate_left
        · (intro Y hSw; (try dsimp only at hSw); obtain ⟨hS0, hS1, hS2, hS3⟩ := hSw; go_simp; try with_reducible rfl)
        try simp only [Act.put, List.getElem_toArray, List.getElem_cons_zero, List.getElem_cons_succ, List.setIfInBounds_toArray, List.set_cons_zero, List.set_cons_succ]
        refine wpAnyH_take (i := 5) (v := ?_) rfl (by kernel_rfl) (by kernel_rfl) (by kernel_rfl) (fun _ _ _ h => h) (Or.inl ⟨by rfl, ?_⟩) (by assumption) ?_
        rotate_left
        · (intro Y hSw; (try dsimp only at hSw); obtain ⟨hS0, hS1, hS2, hS3⟩ := hSw; go_simp; try with_reducible rfl)
        try simp only [Act.put, List.getElem_toArray, List.getElem_cons_zero, List.getElem_cons_succ, List.setIfInBounds_toArray, List.set_cons_zero, List.set_cons_succ]
        refine wpAnyH_take (i := 6) (v := ?_) rfl (by kernel_rfl) (by kernel_rfl) (by kernel_rfl) (fun _ _ _ h => h) (Or.inl ⟨by rfl, ?_⟩) (by assumption) ?_
        rotate_left
        · (intro Y hSw; (try dsimp only at hSw); obtain ⟨hS0, hS1, hS2, hS3⟩ := hSw; go_simp; try with_reducible rfl)
        try simp only [Act.put, List.getElem_toArray, List.getElem_cons_zero, List.getElem_cons_succ, List.setIfInBounds_toArray, List.set_cons_zero, List.set_cons_succ]
        refine wpAnyH_take (i := 7) (v := ?_) rfl (by kernel_rfl) (by kernel_rfl) (by kernel_rfl) (fun _ _ _ h => h) (Or.inl ⟨by rfl, ?_⟩) (by assumption) ?_
        rotate_left
        · (intro Y hSw; (try dsimp only at hSw); obtain ⟨hS0, hS1, hS2, hS3⟩ := hSw; go_simp; try with_reducible rfl)
        try simp only [Act.put, List.getElem_toArray, List.getElem_cons_zero, List.getElem_cons_succ, List.setIfInBounds_toArray, List.set_cons_zero, List.set_cons_succ]
        refine wpAnyH_take (i := 8) (v := ?_) rfl (by kernel_rfl) (by kernel_rfl) (by kernel_rfl) (fun _ _ _ h => h) (Or.inl ⟨by rfl, ?_⟩) (by assumption) ?_
        rotate_left
        · (intro Y hSw; (try dsimp only at hSw); obtain ⟨hS0, hS1, hS2, hS3⟩ := hSw; go_simp; try with_reducible rfl)
        try simp only [Act.put, List.getElem_toArray, List.getElem_cons_zero, List.getElem_cons_succ, List.setIfInBounds_toArray, List.set_cons_zero, List.set_cons_succ]
        refine wpAnyH_take (i := 9) (v := ?_) rfl (by kernel_rfl) (by kernel_rfl) (by kernel_rfl) (fun _ _ _ h => h) (Or.inl ⟨by rfl, ?_⟩) (by assumption) ?_
        rotate_left
        · (intro Y hSw; (try dsimp only at hSw); obtain ⟨hS0, hS1, hS2, hS3⟩ := hSw; go_simp; try with_reducible rfl)
        try simp only [Act.put, List.getElem_toArray, List.getElem_cons_zero, List.getElem_cons_succ, List.setIfInBounds_toArray, List.set_cons_zero, List.set_cons_succ]
        refine wpAnyH_take (i := 10) (v := ?_) rfl (by kernel_rfl) (by kernel_rfl) (by kernel_rfl) (fun _ _ _ h => h) (Or.inl ⟨by rfl, ?_⟩) (by assumption) ?_
        rotate_left
        · (intro Y hSw; (try dsimp only at hSw); obtain ⟨hS0, hS1, hS2, hS3⟩ := hSw; go_simp; try with_reducible rfl)
        try simp only [Act.put, List.getElem_toArray, List.getElem_cons_zero, List.getElem_cons_succ, List.setIfInBounds_toArray, List.set_cons_zero, List.set_cons_succ]
        refine wpAnyH_take (i := 11) (v := ?_) rfl (by kernel_rfl) (by kernel_rfl) (by kernel_rfl) (fun _ _ _ h => h) (Or.inl ⟨by rfl, ?_⟩) (by assumption) ?_
        rotate_left
        · (intro Y hSw; (try dsimp only at hSw); obtain ⟨hS0, hS1, hS2, hS3⟩ := hSw; go_simp; try with_reducible rfl)
        try simp only [Act.put, List.getElem_toArray, List.getElem_cons_zero, List.getElem_cons_succ, List.setIfInBounds_toArray, List.set_cons_zero, List.set_cons_succ]
        refine wpAnyH_ready (rs := [12]) (by kernel_rfl) (by simp) ?_
        refine AllReadyH.cons rfl (fun K hK => ?_) AllReadyH.nil
        go_simp
        refine (HU.out Y hH2.t).mono ?_; rintro e Z ⟨rfl, hz, kz⟩
        have hH3 := hH2.to hz kz hEg hEi
        go_simp
        refine hK.out _ _ (HQ.out _ hH3.k) (fun hHeld => ?_)
        clear hK K
        try simp only [Act.put, List.getElem_toArray, List.getElem_cons_zero, List.getElem_cons_succ, List.setIfInBounds_toArray, List.set_cons_zero, List.set_cons_succ]
        refine wpAnyH_done (by kernel_rfl) ?_ _
        rw [onlyN_normal]
        clear hH2 hz kz hHeld
        go_wp2_with fail
        exact ⟨⟨k + 1, E, by omega, by omega, by go_num, hH3⟩, by simp [intOf]; omega⟩
      · have hD : mapD D a1 ⟨a3, a4, a5⟩ = E := by rw [← hE]; unfold holdD; rw [if_neg c1, if_neg c2]
        have HU := Lib.hid (fun (Y : World) (h : TblAt Y b m D) => Map_ok h (by omega) a1 ⟨a3, a4, a5⟩)
        unfold encE at HU
        rw [hD] at HU
        clear hE hD
        go_wp2_with fail
        refine wp_onlyN ?_
        refine wp_region_held_drew (S := HdS ba (off + k * 6) a1 a3 a4 a5) (by kernel_rfl) ⟨q1, q3, q4, q5⟩ (fun hHeld => ?_)
        have hH2 := hH.step (Below.refl _ wr).drew
        clear hH q0 q1 q2 q3 q4 q5 qq
        change wpAnyH _ _ _ _ _ _ _ _ wr.drew
        generalize wr.drew = Y at hH2 hHeld ⊢
        refine wpAnyH_take (i := 0) (v := ?_) rfl (by kernel_rfl) (by kernel_rfl) (by kernel_rfl) (fun _ _ _ h => h) (Or.inl ⟨by rfl, ?_⟩) (by assumption) ?_
        rotate_left
        · (intro Y hSw; (try dsimp only at hSw); obtain ⟨hS0, hS1, hS2, hS3⟩ := hSw; go_simp; try with_reducible rfl)
        try simp only [Act.put, List.getElem_toArray, List.getElem_cons_zero, List.getElem_cons_succ, List.setIfInBounds_toArray, List.set_cons_zero, List.set_cons_succ]
        refine wpAnyH_take (i := 1) (v := ?_) rfl (by kernel_rfl) (by kernel_rfl) (by kernel_rfl) (fun _ _ _ h => h) (Or.inl ⟨by rfl, ?_⟩) (by assumption) ?_
        rotate_left
        · (intro Y hSw; (try dsimp only at hSw); obtain ⟨hS0, hS1, hS2, hS3⟩ := hSw; go_simp; try with_reducible rfl)
        try simp only [Act.put, List.getElem_toArray, List.getElem_cons_zero, List.getElem_cons_succ, List.setIfInBounds_toArray, List.set_cons_zero, List.set_cons_succ]
        refine wpAnyH_take (i := 2) (v := ?_) rfl (by kernel_rfl) (by kernel_rfl) (by kernel_rfl) (fun _ _ _ h => h) (Or.inl ⟨by rfl, ?_⟩) (by assumption) ?_
        rotate_left
        · (intro Y hSw; (try dsimp only at hSw); obtain ⟨hS0, hS1, hS2, hS3⟩ := hSw; go_simp; try with_reducible rfl)
        try simp only [Act.put, List.getElem_toArray, List.getElem_cons_zero, List.getElem_cons_succ, List.setIfInBounds_toArray, List.set_cons_zero, List.set_cons_succ]
        refine wpAnyH_take (i := 3) (v := ?_) rfl (by kernel_rfl) (by kernel_rfl) (by kernel_rfl) (fun _ _ _ h => h) (Or.inl ⟨by rfl, ?_⟩) (by assumption) ?_
        rotate_left
        · (intro Y hSw; (try dsimp only at hSw); obtain ⟨hS0, hS1, hS2, hS3⟩ := hSw; go_simp; try with_reducible rfl)
        try simp only [Act.put, List.getElem_toArray, List.getElem_cons_zero, List.getElem_cons_succ, List.setIfInBounds_toArray, List.set_cons_zero, List.set_cons_succ]
        refine wpAnyH_take (i := 4) (v := ?_) rfl (by kernel_rfl) (by kernel_rfl) (by kernel_rfl) (fun _ _ _ h => h) (Or.inl ⟨by rfl, ?_⟩) (by assumption) ?_
        rotate_left
        · (intro Y hSw; (try dsimp only at hSw); obtain ⟨hS0, hS1, hS2, hS3⟩ := hSw; go_simp; try with_reducible rfl)
        try simp only [Act.put, List.getElem_toArray, List.getElem_cons_zero, List.getElem_cons_succ, List.setIfInBounds_toArray, List.set_cons_zero, List.set_cons_succ]
        refine wpAnyH_take (i := 5) (v := ?_) rfl (by kernel_rfl) (by kernel_rfl) (by kernel_rfl) (fun _ _ _ h => h) (Or.inl ⟨by rfl, ?_⟩) (by assumption) ?_
        rotate_left
        · (intro Y hSw; (try dsimp only at hSw); obtain ⟨hS0, hS1, hS2, hS3⟩ := hSw; go_simp; try with_reducible rfl)
        try simp only [Act.put, List.getElem_toArray, List.getElem_cons_zero, List.getElem_cons_succ, List.setIfInBounds_toArray, List.set_cons_zero, List.set_cons_succ]
        refine wpAnyH_take (i := 6) (v := ?_) rfl (by kernel_rfl) (by kernel_rfl) (by kernel_rfl) (fun _ _ _ h => h) (Or.inl ⟨by rfl, ?_⟩) (by assumption) ?_
        rotate_left
        · (intro Y hSw; (try dsimp only at hSw); obtain ⟨hS0, hS1, hS2, hS3⟩ := hSw; go_simp; try with_reducible rfl)
        try simp only [Act.put, List.getElem_toArray, List.getElem_cons_zero, List.getElem_cons_succ, List.setIfInBounds_toArray, List.set_cons_zero, List.set_cons_succ]
        refine wpAnyH_take (i := 7) (v := ?_) rfl (by kernel_rfl) (by kernel_rfl) (by kernel_rfl) (fun _ _ _ h => h) (Or.inl ⟨by rfl, ?_⟩) (by assumption) ?_
        rotate_left
        · (intro Y hSw; (try dsimp only at hSw); obtain ⟨hS0, hS1, hS2, hS3⟩ := hSw; go_simp; try with_reducible rfl)
        try simp only [Act.put, List.getElem_toArray, List.getElem_cons_zero, List.getElem_cons_succ, List.setIfInBounds_toArray, List.set_cons_zero, List.set_cons_succ]
        refine wpAnyH_take (i := 8) (v := ?_) rfl (by kernel_rfl) (by kernel_rfl) (by kernel_rfl) (fun _ _ _ h => h) (Or.inl ⟨by rfl, ?_⟩) (by assumption) ?_
        rotate_left
        · (intro Y hSw; (try dsimp only at hSw); obtain ⟨hS0, hS1, hS2, hS3⟩ := hSw; go_simp; try with_reducible rfl)
        try simp only [Act.put, List.getElem_toArray, List.getElem_cons_zero, List.getElem_cons_succ, List.setIfInBounds_toArray, List.set_cons_zero, List.set_cons_succ]
        refine wpAnyH_take (i := 9) (v := ?_) rfl (by kernel_rfl) (by kernel_rfl) (by kernel_rfl) (fun _ _ _ h => h) (Or.inl ⟨by rfl, ?_⟩) (by assumption) ?_
        rotate_left
        · (intro Y hSw; (try dsimp only at hSw); obtain ⟨hS0, hS1, hS2, hS3⟩ := hSw; go_simp; try with_reducible rfl)
        try simp only [Act.put, List.getElem_toArray, List.getElem_cons_zero, List.getElem_cons_succ, List.setIfInBounds_toArray, List.set_cons_zero, List.set_cons_succ]
        refine wpAnyH_take (i := 10) (v := ?_) rfl (by kernel_rfl) (by kernel_rfl) (by kernel_rfl) (fun _ _ _ h => h) (Or.inl ⟨by rfl, ?_⟩) (by assumption) ?_
        rotate_left
        · (intro Y hSw; (try dsimp only at hSw); obtain ⟨hS0, hS1, hS2, hS3⟩ := hSw; go_simp; try with_reducible rfl)
        try simp only [Act.put, List.getElem_toArray, List.getElem_cons_zero, List.getElem_cons_succ, List.setIfInBounds_toArray, List.set_cons_zero, List.set_cons_succ]
        refine wpAnyH_ready (rs := [11]) (by kernel_rfl) (by simp) ?_
        refine AllReadyH.cons rfl (fun K hK => ?_) AllReadyH.nil
        go_simp
        refine (HU.out Y hH2.t).mono ?_; rintro e Z ⟨rfl, hz, kz⟩
        have hH3 := hH2.to hz kz hEg hEi
        go_simp
        refine hK.out _ _ (HQ.out _ hH3.k) (fun hHeld => ?_)
        clear hK K
        try simp only [Act.put, List.getElem_toArray, List.getElem_cons_zero, List.getElem_cons_succ, List.setIfInBounds_toArray, List.set_cons_zero, List.set_cons_succ]
        refine wpAnyH_done (by kernel_rfl) ?_ _
        rw [onlyN_normal]
        clear hH2 hz kz hHeld
        go_wp2_with fail
        exact ⟨⟨k + 1, E, by omega, by omega, by go_num, hH3⟩, by simp [intOf]; omega⟩
    · obtain rfl : k = l.length := by omega
      have hl40' : D.length ≤ 40 := by omega
      clear HV hcap hDk hk hlt
      have hmm := @run_makeMap Try.prog
      go_wp2_with fail
      clear hmm
      obtain ⟨W1, hW1⟩ : ∃ W1, wr.alloc (.map #[] 0) = W1 := ⟨_, rfl⟩
      rw [hW1]
      have hF : Hf w0 W1 b m wr.heap.size D [] := ⟨hH.step (by rw [← hW1]; exact (Below.refl _ wr).alloc (Nat.le_refl _) _), by rw [← hW1]; exact MapP.new wr, Nat.ne_of_lt hH.t.blk.lt, Nat.ne_of_lt hH.t.mp.lt, hH.k.size⟩
      obtain ⟨bf, hbf⟩ : ∃ bf, wr.heap.size = bf := ⟨_, rfl⟩
      rw [hbf] at hF ⊢
      have hr0 : FrI [] (belR D (-1)) := by rw [belR_lo hH.g]; exact FrI.nil
      clear hW1 hbf hH
      go_loopw [10] (fun o wr => ∃ (i : Int) (F : List (Int × Int)), -1 ≤ i ∧ i ≤ 64 ∧ o = .int .i64 i ∧ Hf w0 wr b m bf D F ∧ FrI F (belR D i)) (fun o _ => (64 - intOf o).toNat)
      case atStart => exact ⟨-1, [], by omega, by omega, rfl, hF, hr0⟩
      case round =>
        obtain ⟨o, F, o0, o1, rfl, hF2, hFr⟩ := hrel
        rename_i wr
        clear hF hr0
        by_cases ho : o < 64
        · have hol := of_len D o
          go_wp2_with fail
          refine (all_ok hF2.p.t.v hF2.p.g (by omega) o 100 (by omega) (by decide)).mono ?_; rintro e w1 ⟨v1, rfl, o1', k1⟩
          have hF3 := hF2.step k1
          have hbl : bf < wr.heap.size := hF2.f.lt
          obtain ⟨sb, hsb⟩ : ∃ sb, wr.heap.size = sb := ⟨_, rfl⟩
          rw [hsb] at o1' hbl
          obtain ⟨va, vc, rfl, hvc⟩ := (RowAt.of_owns o1' (Nat.le_refl _)).len
          clear hvc
          obtain ⟨R, hR⟩ : ∃ R, ofR D o = R := ⟨_, rfl⟩
          have HR := Lib.hid hR
          have hmo : ∀ j (hj : j < R.length), R[j].2.o = o := by
            rw [← hR]; intro j hj
            simpa using (List.mem_filter.1 (List.getElem_mem hj)).2
          have HMO := Lib.hid hmo
          rw [hR] at o1' hol ⊢
          clear hF2 hsb hR hmo k1
          go_wp2_with fail
          go_loopw [12] (fun i wr2 => ∃ (j : Nat) (F2 : List (Int × Int)), j ≤ R.length ∧ i = .int .i64 j ∧ Hf w0 wr2 b m bf D F2 ∧ FrI F2 (belR D o ++ R.take j) ∧ wr2.ownsRow sb 55 4 (.slice va R.length vc) R.length (rowT R)) (fun i _ => R.length - (intOf i).toNat)
          case atStart => exact ⟨0, F, by omega, rfl, hF3, by simpa using hFr, o1'⟩
          case round =>
            obtain ⟨j, F2, hj, rfl, hG, hG2, hown⟩ := hrel
            clear hF3 hFr o1'
            by_cases hlj : j < R.length
            · obtain ⟨b1, of1, rfl, _, q⟩ := (RowAt.of_owns hown (Nat.le_refl _)).gett j hlj
              have hnew : hasR F2 R[j].2.f = false := by
                have h9 := HR.out
                subst h9
                exact FrI.new hG.p.inj hG.p.g.srt hlj hG2
              have hput := hG2.put hnew
              have hm := HMO.out j hlj
              have htk : (belR D o ++ R.take (j + 1)) = belR D o ++ R.take j ++ [R[j]] := by rw [List.take_succ_eq_append_getElem hlj, List.append_assoc]
              rw [← htk] at hput
              have HPUT := Lib.hid hput
              obtain ⟨⟨xk, xo, xm, xf⟩, hx⟩ : ∃ y, R[j] = y := ⟨_, rfl⟩
              rw [hx] at q hnew HPUT hm
              dsimp only at hm hnew HPUT
              subst hm
              have hlk := (hG.f.lookup (P := Try.prog) Try.underlying63 Try.underlying3 (zero_int _) xf).1
              rw [getR_none hnew, show ((none : Option Int).map encN).getD (.int .i64 0) = .int .i64 0 from rfl] at hlk
              obtain ⟨W9, hrun, hM9, hT9⟩ := hG.f.store (P := Try.prog) Try.underlying63 Try.underlying3 xf 1
              have hG9 := hG.put hT9 hM9
              have ho9 := (Chg.of_turn hT9).owns hown hbl
              obtain ⟨qc0, qc1, qc2, qc3⟩ := q
              dsimp only at qc0 qc1 qc2 qc3
              unfold encN at hrun
              have j0 : (0 : Int) ≤ j := by omega
              have j1 : (j : Int) < R.length := by omega
              clear hput htk hx hnew hG2 hown hM9 hT9 hG
              go_wp2_with fail
              exact ⟨⟨j + 1, _, by omega, by go_num, hG9, HPUT.out, ho9⟩, by simp [intOf]; omega⟩
            · obtain rfl : j = R.length := by omega
              rw [List.take_length, ← HR.out] at hG2
              go_wp2_with fail
              exact ⟨⟨o + 1, F2, by omega, by omega, by go_num, hG, hG2.next⟩, by simp [intOf]; omega⟩
        · obtain rfl : o = 64 := by omega
          rw [belR_hi hF2.p.g] at hFr
          have hFl := hFr.len
          clear hFr
          go_wp2_with fail
          refine (Copy_ok hF2.p.t).mono ?_; rintro e w2 ⟨c, mc, rfl, hC, l1, l2, k2⟩
          have hml2 := hF2.p.t.mp.lt
          have HE : He w0 w2 b m bf c mc D D F := ⟨hF2.step k2, hC, by omega, by omega⟩
          clear hF2 hC l1 l2 k2 hml2
          obtain ⟨N, hN⟩ : ∃ N, nextI D r0 r1 = N := ⟨_, rfl⟩
          obtain ⟨_, hn1, hn2⟩ := next_in (D := D) (by omega) g0 g1 g2 g3
          have hfr := fun i => free_at (at_ := i) HE.a.p.g.srt (by omega) g0 g1 g2 g3
          have hnv : nxV D r0 r1 = N := by unfold nxV; rw [hN] at hn1 ⊢; omega
          have hnb : nxB D r0 r1 = true := by unfold nxB; rw [hN] at hn1 ⊢; exact decide_eq_true (by omega)
          rw [hN] at hn1 hn2 hfr
          have HFR := Lib.hid hfr
          have hlD : D.length ≤ 1000 := by omega
          have hgD := HE.a.p.g
          have hiD := HE.a.p.inj
          clear hN hfr
          obtain ⟨x1, x3, x4, x5, y0, y1⟩ := HB.out _ HE.a.p.k
          go_wp2_with fail
          refine (Map_ok HE.a.p.t (by omega) f1 ⟨f3, f4, f5⟩).mono ?_; rintro e w3 ⟨rfl, ht3, kc3⟩
          have HE3 := HE.to ht3 kc3 (HE.a.p.g.map _ _) (HE.a.p.inj.map _ _)
          clear HE ht3 kc3 x1 x3 x4 x5 y0 y1
          obtain ⟨x1, x3, x4, x5, y0, y1⟩ := HB.out _ HE3.a.p.k
          by_cases hz : mapE D f1 ⟨f3, f4, f5⟩ = 0
          · obtain ⟨u1, u2, u3⟩ := map_unm hgD hz
            rw [hz]
            go_wp2_with fail
            refine (num_calls _ _).mono ?_; rintro e _ ⟨rfl, rfl⟩
            go_wp2_with fail
            refine (Unmap_ok HE3.a.p.t HE3.a.p.g.srt f1).mono ?_; rintro e w4 ⟨rfl, ht4, kc4⟩
            rw [u3] at ht4
            rw [u1, u2]
            have HE4 := HE3.to ht4 kc4 hgD hiD
            unfold encE
            clear HE3 ht4 kc4 x1 x3 x4 x5 y0 y1 u1 u2 u3 hz
            obtain ⟨w5, hw5⟩ : ∃ w5, w4.alloc (.cells #[.int .i64 f3, .int .i64 f4, .int .i64 f5] 31) = w5 := ⟨_, rfl⟩
            have k5 : Below w4.heap.size w4 w5 := by rw [← hw5]; exact (Below.refl _ w4).alloc (Nat.le_refl _) _
            have hZ : Blk w5 w4.heap.size #[.int .i64 f3, .int .i64 f4, .int .i64 f5] 31 := by rw [← hw5]; exact Blk.new w4 _ _
            have HE := HE4.step k5
            have z0 : w5.cell? ⟨w4.heap.size, 0, none⟩ = some (.int .i64 f3) := hZ.cell 0 rfl
            have z1 : w5.cell? ⟨w4.heap.size, 1, none⟩ = some (.int .i64 f4) := hZ.cell 1 rfl
            have z2 : w5.cell? ⟨w4.heap.size, 2, none⟩ = some (.int .i64 f5) := hZ.cell 2 rfl
            obtain ⟨x1, x3, x4, x5, y0, y1⟩ := HB.out _ HE.a.p.k
            go_wp2_with fail
            clear hw5 HE4 k5 hZ z0 z1 z2
            refine (num_calls _ _).mono ?_; rintro e _ ⟨rfl, rfl⟩
            clear x1 x3 x4 x5 y0 y1
            obtain ⟨x1, x3, x4, x5, y0, y1⟩ := HB.out _ HE.a.p.k
            go_wp2_with fail
            refine (Next_ok HE.a.p.t HE.a.p.g (by omega) r0 r1 (by omega)).mono ?_; rintro e w7 ⟨rfl, k7⟩
            rw [hnv, hnb]
            have HE7 := HE.step k7
            clear HE k7 x1 x3 x4 x5 y0 y1
            obtain ⟨x1, x3, x4, x5, y0, y1⟩ := HB.out _ HE7.a.p.k
            go_wp2_with fail
            refine (Same_ok HE7.a.p.t HE7.cp HE7.a.p.g.srt HE7.a.p.g.srt (by omega) (by omega)).mono ?_; rintro e w8 ⟨rfl, k8⟩
            rw [show decide (D = D) = true from decide_eq_true rfl]
            have HE8 := HE7.step k8
            clear HE7 k8 x1 x3 x4 x5 y0 y1
            obtain ⟨x1, x3, x4, x5, y0, y1⟩ := HB.out _ HE8.a.p.k
            have hln := fun ty => HE8.a.f.len (P := Try.prog) 63 ty 3 3 Try.underlying63
            rw [hFl] at hln
            go_wp2_with fail
            refine (Len_ok HE8.a.p.t).mono ?_; rintro e w9 ⟨rfl, k9⟩
            have HE9 := HE8.a.p.step k9
            clear HE8 k9 x1 x3 x4 x5 y0 y1 hln
            obtain ⟨x1, x3, x4, x5, y0, y1⟩ := HB.out _ HE9.k
            go_wp2_with fail
            go_loopw [18] (fun a wr => ∃ i : Int, r0 ≤ i ∧ i ≤ N + 1 ∧ a = .int .i64 i ∧ Hp w0 wr b m D) (fun a _ => (N + 1 - intOf a).toNat)
            case atStart => exact ⟨r0, by omega, by omega, rfl, HE9⟩
            case round =>
              obtain ⟨i, i0, i1, rfl, hH⟩ := hrel
              clear HE9 x1 x3 x4 x5 y0 y1
              obtain ⟨x1, x3, x4, x5, y0, y1⟩ := HB.out _ hH.k
              by_cases hlt : i ≤ N
              · by_cases h400 : i - r0 < 400
                · have hw : IntKind.i64.wrap (i - r0) = i - r0 := IntWalk.i64_in _ (by omega)
                  go_wp2_with fail
                  refine (Free_ok hH.t hH.g (by omega) i r1 (by omega)).mono ?_; rintro e u1 ⟨rfl, j1⟩
                  obtain ⟨hf1, hf2⟩ := HFR.out i i0 hlt
                  rw [hf1, hf2]
                  have hH1 := hH.step j1
                  clear hH j1 hf1 hf2 x1 x3 x4 x5 y0 y1
                  obtain ⟨x1, x3, x4, x5, y0, y1⟩ := HB.out _ hH1.k
                  by_cases hiN : i = N
                  · subst hiN
                    rw [show decide (i = i) = true from decide_eq_true rfl]
                    go_wp2_with fail
                    refine (num_calls _ _).mono ?_; rintro e _ ⟨rfl, rfl⟩
                    go_wp2_with fail
                    exact ⟨⟨i + 1, by omega, by omega, by go_num, hH1⟩, by simp [intOf]; omega⟩
                  · rw [show decide (i = N) = false from decide_eq_false hiN]
                    go_wp2_with fail
                    refine (num_calls _ _).mono ?_; rintro e _ ⟨rfl, rfl⟩
                    go_wp2_with fail
                    exact ⟨⟨i + 1, by omega, by omega, by go_num, hH1⟩, by simp [intOf]; omega⟩
                · have hw : IntKind.i64.wrap (i - r0) = i - r0 := IntWalk.i64_in _ (by omega)
                  go_wp2_with fail
                  refine (works_ok _).mono ?_; rintro e u1 ⟨rfl, j1⟩
                  have hH1 := hH.step j1
                  go_wp2_with fail
                  go_ret
                  exact ⟨rfl, k0.trans (hH1.k.mono k0.size)⟩
              · go_wp2_with fail
                refine (works_ok _).mono ?_; rintro e u1 ⟨rfl, j1⟩
                have hH1 := hH.step j1
                go_wp2_with fail
                go_ret
                exact ⟨rfl, k0.trans (hH1.k.mono k0.size)⟩
          · rw [map_no hz] at HE3
            have HE := HE3
            clear HE3
            generalize mapE D f1 ⟨f3, f4, f5⟩ = ee at hz ⊢
            go_wp2_with fail
            refine (num_calls _ _).mono ?_; rintro e _ ⟨rfl, rfl⟩
            clear x1 x3 x4 x5 y0 y1
            obtain ⟨x1, x3, x4, x5, y0, y1⟩ := HB.out _ HE.a.p.k
            go_wp2_with fail
            refine (Next_ok HE.a.p.t HE.a.p.g (by omega) r0 r1 (by omega)).mono ?_; rintro e w7 ⟨rfl, k7⟩
            rw [hnv, hnb]
            have HE7 := HE.step k7
            clear HE k7 x1 x3 x4 x5 y0 y1
            obtain ⟨x1, x3, x4, x5, y0, y1⟩ := HB.out _ HE7.a.p.k
            go_wp2_with fail
            refine (Same_ok HE7.a.p.t HE7.cp HE7.a.p.g.srt HE7.a.p.g.srt (by omega) (by omega)).mono ?_; rintro e w8 ⟨rfl, k8⟩
            rw [show decide (D = D) = true from decide_eq_true rfl]
            have HE8 := HE7.step k8
            clear HE7 k8 x1 x3 x4 x5 y0 y1
            obtain ⟨x1, x3, x4, x5, y0, y1⟩ := HB.out _ HE8.a.p.k
            have hln := fun ty => HE8.a.f.len (P := Try.prog) 63 ty 3 3 Try.underlying63
            rw [hFl] at hln
            go_wp2_with fail
            refine (Len_ok HE8.a.p.t).mono ?_; rintro e w9 ⟨rfl, k9⟩
            have HE9 := HE8.a.p.step k9
            clear HE8 k9 x1 x3 x4 x5 y0 y1 hln
            obtain ⟨x1, x3, x4, x5, y0, y1⟩ := HB.out _ HE9.k
            go_wp2_with fail
            go_loopw [18] (fun a wr => ∃ i : Int, r0 ≤ i ∧ i ≤ N + 1 ∧ a = .int .i64 i ∧ Hp w0 wr b m D) (fun a _ => (N + 1 - intOf a).toNat)
            case atStart => exact ⟨r0, by omega, by omega, rfl, HE9⟩
            case round =>
              obtain ⟨i, i0, i1, rfl, hH⟩ := hrel
              clear HE9 x1 x3 x4 x5 y0 y1
              obtain ⟨x1, x3, x4, x5, y0, y1⟩ := HB.out _ hH.k
              by_cases hlt : i ≤ N
              · by_cases h400 : i - r0 < 400
                · have hw : IntKind.i64.wrap (i - r0) = i - r0 := IntWalk.i64_in _ (by omega)
                  go_wp2_with fail
                  refine (Free_ok hH.t hH.g (by omega) i r1 (by omega)).mono ?_; rintro e u1 ⟨rfl, j1⟩
                  obtain ⟨hf1, hf2⟩ := HFR.out i i0 hlt
                  rw [hf1, hf2]
                  have hH1 := hH.step j1
                  clear hH j1 hf1 hf2 x1 x3 x4 x5 y0 y1
                  obtain ⟨x1, x3, x4, x5, y0, y1⟩ := HB.out _ hH1.k
                  by_cases hiN : i = N
                  · subst hiN
                    rw [show decide (i = i) = true from decide_eq_true rfl]
                    go_wp2_with fail
                    refine (num_calls _ _).mono ?_; rintro e _ ⟨rfl, rfl⟩
                    go_wp2_with fail
                    exact ⟨⟨i + 1, by omega, by omega, by go_num, hH1⟩, by simp [intOf]; omega⟩
                  · rw [show decide (i = N) = false from decide_eq_false hiN]
                    go_wp2_with fail
                    refine (num_calls _ _).mono ?_; rintro e _ ⟨rfl, rfl⟩
                    go_wp2_with fail
                    exact ⟨⟨i + 1, by omega, by omega, by go_num, hH1⟩, by simp [intOf]; omega⟩
                · have hw : IntKind.i64.wrap (i - r0) = i - r0 := IntWalk.i64_in _ (by omega)
                  go_wp2_with fail
                  refine (works_ok _).mono ?_; rintro e u1 ⟨rfl, j1⟩
                  have hH1 := hH.step j1
                  go_wp2_with fail
                  go_ret
                  exact ⟨rfl, k0.trans (hH1.k.mono k0.size)⟩
              · go_wp2_with fail
                refine (works_ok _).mono ?_; rintro e u1 ⟨rfl, j1⟩
                have hH1 := hH.step j1
                go_wp2_with fail
                go_ret
                exact ⟨rfl, k0.trans (hH1.k.mono k0.size)⟩
end Go.Proofs.Ytchepkihlnpfeaa
