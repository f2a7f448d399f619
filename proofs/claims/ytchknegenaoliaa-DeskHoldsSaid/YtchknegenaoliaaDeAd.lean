/-
  Package pinfoldlaw21: is. Conditions: what stands at a desk.
-/
import Derived.Test.YtchknegenaoliaaDeAc
namespace Go.Proofs.Ytchknegenaoliaa
open Go.RowKit
attribute [local go_sem] Oper.semAt_some
set_option maxHeartbeats 1000000
set_option maxRecDepth 4000

structure IsS (s b m : Nat) (P : List Ten) (T : Thr) (Y : World) : Prop where
  d : DkAt Y b m P T
  r : Blk Y s (refV P (hsT T)) 52
theorem IsS.step {s b m : Nat} {P : List Ten} {T : Thr} {Y Z : World} (x : IsS s b m P T Y) (k : Below Y.heap.size Y Z) : IsS s b m P T Z := ⟨x.d.step k, x.r.below k x.r.lt⟩
structure IsQ (s b m b1 o1 : Nat) (x : Hnd) (P : List Ten) (T : Thr) (Y : World) : Prop where
  i : IsS s b m P T Y
  c0 : Y.cell? ⟨b1, o1, none⟩ = some (.int .i64 x.s)
  c1 : Y.cell? ⟨b1, o1 + 1, none⟩ = some (.int .i64 x.g)
structure IsU (s c k : Nat) (x : Hnd) (Y : World) : Prop where
  x0 : Y.cell? ⟨c, 0, none⟩ = some (.int .i64 x.s)
  x1 : Y.cell? ⟨c, 1, none⟩ = some (.int .i64 x.g)
  t0 : Y.cell? ⟨s, 16 + k * 2, none⟩ = some (.int .i64 x.s)
  t1 : Y.cell? ⟨s, 16 + k * 2 + 1, none⟩ = some (.int .i64 x.g)
theorem is_all {w : World} {b m : Nat} {n : Int} {P : List Ten} {T : Thr} (hD : DkAt w b m P T) (hg : Good n P T) :
    Calls Try.prog 18 #[.pointer (some ⟨b, 0, none⟩), .agg (refV P (hsT T))] w fun e w' => e = .returned (.bool true) ∧ Below w.heap.size w w' := by
  obtain ⟨w0, hw0⟩ : ∃ w0, w.alloc (.cells (refV P (hsT T)) 52) = w0 := ⟨_, rfl⟩
  have k0 : Below w.heap.size w w0 := by rw [← hw0]; exact (Below.refl _ w).alloc (Nat.le_refl _) _
  have hx : IsS w.heap.size b m P T w0 := ⟨hD.step k0, by rw [← hw0]; exact Blk.new w _ _⟩
  obtain ⟨s, hs⟩ : ∃ s, w.heap.size = s := ⟨_, rfl⟩
  have HS := Lib.hid hs
  rw [hs] at hx k0
  have hzs : s ≤ w0.heap.size := by have := hx.r.lt; omega
  have hL := hsT_L hg.len T
  have HSZ := Lib.hid hL.size
  have HL := Lib.hid hL
  have HG := Lib.hid hg
  clear hD hg hL
  go_enter Try.func18, Try.ntmps18
  go_wp2_with (first | refine wpList_loadB ty24 rfl _ rfl s rfl (by rw [← hs, ← hw0]; exact Blk.new w _ _) HSZ.out ?_)
  clear hw0 hs
  refine (tenants_ok HL.out w0).mono ?_; rintro e w1 ⟨v, rfl, ho, k1⟩
  replace hx := hx.step k1
  have kk := k0.trans (k1.mono hzs)
  have hz1 := k1.size
  have hr1 : RowAt w1.heap.size w1 v (tenL P).length (hndsV (tenL P)) := RowAt.of_owns ho (Nat.le_refl _)
  have HR1 := Lib.hid hr1
  obtain ⟨a1, c1, rfl, _⟩ := hr1.len
  have htl : (tenL P).length ≤ 4 := tenTo_len P 4
  clear k0 k1 ho hr1
  go_wp2_with fail
  refine (all_ok (P := P) (.inl ⟨b, m, T, rfl, hx.d⟩) 9 (by decide) (by decide)).mono ?_; rintro e w2 ⟨u, rfl, ho, k2⟩
  replace hx := hx.step k2
  replace kk := kk.trans (k2.mono (by omega))
  have hz2 := k2.size
  have HR3 := Lib.hid ((HR1.out.below k2 (Nat.le_refl _)).mono hz2)
  have hr2 : RowAt w2.heap.size w2 u (tenL P).length (hndsV (tenL P)) := RowAt.of_owns ho (Nat.le_refl _)
  have HR2 := Lib.hid hr2
  obtain ⟨a2, c2, rfl, _⟩ := hr2.len
  clear ho hr2 k2
  go_wp2_with fail
  refine (same_ok _ _ (tenL P) _ rfl w2.heap.size w2 (Nat.le_refl _) (by omega) HR2.out HR3.out).mono ?_; rintro e w3 ⟨rfl, k3⟩
  replace hx := hx.step k3
  replace kk := kk.trans (k3.mono (by omega))
  have hz3 := k3.size
  have HR4 := Lib.hid ((HR3.out.below k3 (Nat.le_refl _)).mono hz3)
  have HIX := Lib.hid hx
  have HKK := Lib.hid kk
  obtain ⟨nl, hnl⟩ : ∃ nl, (tenL P).length = nl := ⟨_, rfl⟩
  rw [hnl] at HR4 htl ⊢
  have HNL := Lib.hid hnl
  clear k3 HR1 HR2 HR3 hx kk hnl
  go_wp2_with fail
  have hs3 : s ≤ w3.heap.size := by omega
  go_loopw [6] (fun i wr => ∃ k : Nat, k ≤ nl ∧ i = .int .i64 k ∧ Below w3.heap.size w3 wr) (fun i _ => nl - (intOf i).toNat)
  case atStart => exact ⟨0, by omega, rfl, Below.refl _ _⟩
  case round =>
    obtain ⟨k, hk, rfl, hb⟩ := hrel
    have hx := HIX.out.step hb
    have hzr := hb.size
    by_cases hlt : k < nl
    · have hlt' : k < (tenL P).length := by rw [HNL.out]; exact hlt
      obtain ⟨b1, o1, rfl, _, p0, p1⟩ := (HR4.out.below hb (Nat.le_refl _)).geth k hlt'
      have i0 : (0 : Int) ≤ k := by omega
      have i1 : (k : Int) < nl := by omega
      generalize (tenL P)[k] = x at p0 p1
      have hst : IsQ s b m b1 (o1 + k * 2) x P T wr.drew := ⟨hx.step (Below.refl _ wr).drew, p0, p1⟩
      have hlb : b1 < wr.drew.heap.size := World.block_lt_of_cell? wr _ p0
      clear hlt' p0 p1 hx
      go_wp2_with fail
      refine wp_onlyN ?_
      refine wp_region_held_drew (S := IsQ s b m b1 (o1 + k * 2) x P T) (by kernel_rfl) hst (fun hHeld => ?_)
      refine wpAnyH_take (i := 0) (v := ?_) rfl (by kernel_rfl) (by kernel_rfl) (by kernel_rfl) (fun _ _ _ h => h) (Or.inl ⟨by rfl, ?_⟩) (by assumption) ?_
      rotate_left
      · (intro Y hSw; (try dsimp only at hSw); obtain ⟨⟨hS0, hS1⟩, hS2, hS3⟩ := hSw; go_simp; try with_reducible rfl)
      try simp only [Act.put, List.getElem_toArray, List.getElem_cons_zero, List.getElem_cons_succ, List.setIfInBounds_toArray, List.set_cons_zero, List.set_cons_succ]
      refine wpAnyH_take (i := 1) (v := .agg (refV P (hsT T))) rfl (by kernel_rfl) (by kernel_rfl) (by kernel_rfl) (fun _ _ _ h => h) (Or.inl ⟨by rfl, fun Y hSw => exec_loadB ty24 _ rfl s rfl hSw.i.r HSZ.out⟩) (by assumption) ?_
      try simp only [Act.put, List.getElem_toArray, List.getElem_cons_zero, List.getElem_cons_succ, List.setIfInBounds_toArray, List.set_cons_zero, List.set_cons_succ]
      refine wpAnyH_take (i := 2) (v := ?_) rfl (by kernel_rfl) (by kernel_rfl) (by kernel_rfl) (fun _ _ _ h => h) (Or.inl ⟨by rfl, ?_⟩) (by assumption) ?_
      rotate_left
      · (intro Y hSw; (try dsimp only at hSw); obtain ⟨⟨hS0, hS1⟩, hS2, hS3⟩ := hSw; go_simp; try with_reducible rfl)
      try simp only [Act.put, List.getElem_toArray, List.getElem_cons_zero, List.getElem_cons_succ, List.setIfInBounds_toArray, List.set_cons_zero, List.set_cons_succ]
      refine wpAnyH_take (i := 3) (v := ?_) rfl (by kernel_rfl) (by kernel_rfl) (by kernel_rfl) (fun _ _ _ h => h) (Or.inl ⟨by rfl, ?_⟩) (by assumption) ?_
      rotate_left
      · (intro Y hSw; (try dsimp only at hSw); obtain ⟨⟨hS0, hS1⟩, hS2, hS3⟩ := hSw; go_simp; try with_reducible rfl)
      try simp only [Act.put, List.getElem_toArray, List.getElem_cons_zero, List.getElem_cons_succ, List.setIfInBounds_toArray, List.set_cons_zero, List.set_cons_succ]
      refine wpAnyH_take (i := 4) (v := ?_) rfl (by kernel_rfl) (by kernel_rfl) (by kernel_rfl) (fun _ _ _ h => h) (Or.inl ⟨by rfl, ?_⟩) (by assumption) ?_
      rotate_left
      · (intro Y hSw; (try dsimp only at hSw); obtain ⟨⟨hS0, hS1⟩, hS2, hS3⟩ := hSw; go_simp; try with_reducible rfl)
      try simp only [Act.put, List.getElem_toArray, List.getElem_cons_zero, List.getElem_cons_succ, List.setIfInBounds_toArray, List.set_cons_zero, List.set_cons_succ]
      refine wpAnyH_take (i := 5) (v := .agg #[.int .i64 x.s, .int .i64 x.g]) rfl (by kernel_rfl) (by kernel_rfl) (by kernel_rfl) (fun _ _ _ h => h) (Or.inl ⟨by rfl, by intro Y hSw; have x0 := hSw.c0; have x1 := hSw.c1; go_simp⟩) (by assumption) ?_
      try simp only [Act.put, List.getElem_toArray, List.getElem_cons_zero, List.getElem_cons_succ, List.setIfInBounds_toArray, List.set_cons_zero, List.set_cons_succ]
      refine wpAnyH_ready (rs := [6]) (by kernel_rfl) (by simp) ?_
      refine AllReadyH.cons rfl (fun K hK => ?_) AllReadyH.nil
      go_simp
      refine (asked_all hst.i.d HG.out x).mono ?_; rintro e w4 ⟨rfl, k4⟩
      go_simp
      refine hK.out _ _ (⟨hst.i.step k4, (k4.cell (p := ⟨b1, o1 + k * 2, none⟩) hlb).trans hst.c0, (k4.cell (p := ⟨b1, o1 + k * 2 + 1, none⟩) hlb).trans hst.c1⟩) (fun hHeld => ?_)
      clear hK K
      try simp only [Act.put, List.getElem_toArray, List.getElem_cons_zero, List.getElem_cons_succ, List.setIfInBounds_toArray, List.set_cons_zero, List.set_cons_succ]
      refine wpAnyH_take (i := 7) (v := ?_) rfl (by kernel_rfl) (by kernel_rfl) (by kernel_rfl) (fun _ _ _ h => h) (Or.inl ⟨by rfl, ?_⟩) (by assumption) ?_
      rotate_left
      · (intro Y hSw; (try dsimp only at hSw); obtain ⟨⟨hS0, hS1⟩, hS2, hS3⟩ := hSw; go_simp; try with_reducible rfl)
      try simp only [Act.put, List.getElem_toArray, List.getElem_cons_zero, List.getElem_cons_succ, List.setIfInBounds_toArray, List.set_cons_zero, List.set_cons_succ]
      refine wpAnyH_done (by kernel_rfl) ?_ _
      rw [onlyN_normal]
      have hb4 := hb.drew.trans (k4.mono hzr)
      go_wp2_with fail
      exact ⟨⟨k + 1, by omega, by go_num, hb4⟩, by simp [intOf]; omega⟩
    · obtain rfl : k = nl := by omega
      have hb9 := HKK.out.trans (hb.mono (by omega))
      clear hx
      have HB9 := Lib.hid hb
      clear hb9 hb
      go_wp2_with fail
      go_loopw [7] (fun i wr2 => ∃ t : Int, -1 ≤ t ∧ t ≤ 5 ∧ i = .int .i64 t ∧ Below w3.heap.size w3 wr2) (fun i _ => (5 - intOf i).toNat)
      case atStart => exact ⟨-1, by omega, by omega, rfl, HB9.out⟩
      case round =>
        obtain ⟨t, ht0, ht1, rfl, hb⟩ := hrel
        rename_i wr2
        have hx := HIX.out.step hb
        have hzr2 := hb.size
        by_cases hlt : t ≤ 4
        · go_wp2_with fail
          refine (Of_ok hx.d t).mono ?_; rintro e w4 ⟨rfl, k4⟩
          replace hx := hx.step k4
          have hb4 := hb.trans (k4.mono hzr2)
          have hz4 := k4.size
          have hhas := HG.out.has t
          obtain ⟨x, hxx⟩ : ∃ x, getH T t = x := ⟨_, rfl⟩
          have HXX := Lib.hid hxx
          rw [hxx] at hhas ⊢
          obtain ⟨bz, hbz⟩ : ∃ bz, decide (x ≠ ⟨0, 0⟩) = bz := ⟨_, rfl⟩
          rw [hhas, hbz]
          have HBZ := Lib.hid hbz
          clear hhas hbz
          unfold encH
          obtain ⟨w5, hw5⟩ : ∃ w5, w4.alloc (.cells #[.int .i64 x.s, .int .i64 x.g] 28) = w5 := ⟨_, rfl⟩
          have k5 : Below w4.heap.size w4 w5 := by rw [← hw5]; exact (Below.refl _ w4).alloc (Nat.le_refl _) _
          have hX : Blk w5 w4.heap.size #[.int .i64 x.s, .int .i64 x.g] 28 := by rw [← hw5]; exact Blk.new w4 _ _
          have hx5 := hx.step k5
          have hb5 := hb4.trans (k5.mono (by omega))
          clear hx hxx k4 hb hb4
          go_wp2_with fail
          clear hw5
          refine (Thread_calls _ _).mono ?_; rintro e _ ⟨rfl, rfl⟩
          have x0 : w5.cell? ⟨w4.heap.size, 0, none⟩ = some (.int .i64 x.s) := hX.cell 0 rfl
          have x1 : w5.cell? ⟨w4.heap.size, 1, none⟩ = some (.int .i64 x.g) := hX.cell 1 rfl
          by_cases hi : inS t = true
          · rw [hi]
            have hi' := inS_iff.1 hi
            obtain ⟨k, rfl⟩ : ∃ k : Nat, t = k := ⟨t.toNat, by omega⟩
            have hk : k < 4 := by omega
            have i0 : (0 : Int) ≤ k := by omega
            have i1 : (k : Int) < 4 := by omega
            obtain ⟨q0, q1⟩ := refV_hnd HL.out k hk
            rw [hsT_get T hi', HXX.out] at q0 q1
            have hst : IsU s w4.heap.size k x w5.drew := ⟨x0, x1, hx5.r.cell _ q0, hx5.r.cell _ q1⟩
            have hb6 := hb5.drew
            clear q0 q1 hi' hi hx5 hX hb5 x0 x1
            go_wp2_with fail
            refine wp_onlyN ?_
            refine wp_region_held_drew (S := IsU s w4.heap.size k x) (by kernel_rfl) hst (fun hHeld => ?_)
            refine wpAnyH_take (i := 0) (v := ?_) rfl (by kernel_rfl) (by kernel_rfl) (by kernel_rfl) (fun _ _ _ h => h) (Or.inl ⟨by rfl, ?_⟩) (by assumption) ?_
            rotate_left
            · (intro Y hSw; (try dsimp only at hSw); obtain ⟨hS0, hS1, hS2, hS3⟩ := hSw; go_simp; try with_reducible rfl)
            try simp only [Act.put, List.getElem_toArray, List.getElem_cons_zero, List.getElem_cons_succ, List.setIfInBounds_toArray, List.set_cons_zero, List.set_cons_succ]
            refine wpAnyH_take (i := 1) (v := ?_) rfl (by kernel_rfl) (by kernel_rfl) (by kernel_rfl) (fun _ _ _ h => h) (Or.inl ⟨by rfl, ?_⟩) (by assumption) ?_
            rotate_left
            · (intro Y hSw; (try dsimp only at hSw); obtain ⟨hS0, hS1, hS2, hS3⟩ := hSw; go_simp; try with_reducible rfl)
            try simp only [Act.put, List.getElem_toArray, List.getElem_cons_zero, List.getElem_cons_succ, List.setIfInBounds_toArray, List.set_cons_zero, List.set_cons_succ]
            refine wpAnyH_take (i := 2) (v := ?_) rfl (by kernel_rfl) (by kernel_rfl) (by kernel_rfl) (fun _ _ _ h => h) (Or.inl ⟨by rfl, ?_⟩) (by assumption) ?_
            rotate_left
            · (intro Y hSw; (try dsimp only at hSw); obtain ⟨hS0, hS1, hS2, hS3⟩ := hSw; go_simp; try with_reducible rfl)
            try simp only [Act.put, List.getElem_toArray, List.getElem_cons_zero, List.getElem_cons_succ, List.setIfInBounds_toArray, List.set_cons_zero, List.set_cons_succ]
            refine wpAnyH_take (i := 3) (v := ?_) rfl (by kernel_rfl) (by kernel_rfl) (by kernel_rfl) (fun _ _ _ h => h) (Or.inl ⟨by rfl, ?_⟩) (by assumption) ?_
            rotate_left
            · (intro Y hSw; (try dsimp only at hSw); obtain ⟨hS0, hS1, hS2, hS3⟩ := hSw; go_simp; try with_reducible rfl)
            try simp only [Act.put, List.getElem_toArray, List.getElem_cons_zero, List.getElem_cons_succ, List.setIfInBounds_toArray, List.set_cons_zero, List.set_cons_succ]
            refine wpAnyH_take (i := 4) (v := ?_) rfl (by kernel_rfl) (by kernel_rfl) (by kernel_rfl) (fun _ _ _ h => h) (Or.inl ⟨by rfl, ?_⟩) (by assumption) ?_
            rotate_left
            · (intro Y hSw; (try dsimp only at hSw); obtain ⟨hS0, hS1, hS2, hS3⟩ := hSw; go_simp; try with_reducible rfl)
            try simp only [Act.put, List.getElem_toArray, List.getElem_cons_zero, List.getElem_cons_succ, List.setIfInBounds_toArray, List.set_cons_zero, List.set_cons_succ]
            refine wpAnyH_take (i := 5) (v := ?_) rfl (by kernel_rfl) (by kernel_rfl) (by kernel_rfl) (fun _ _ _ h => h) (Or.inl ⟨by rfl, ?_⟩) (by assumption) ?_
            rotate_left
            · (intro Y hSw; (try dsimp only at hSw); obtain ⟨hS0, hS1, hS2, hS3⟩ := hSw; go_simp; try with_reducible rfl)
            try simp only [Act.put, List.getElem_toArray, List.getElem_cons_zero, List.getElem_cons_succ, List.setIfInBounds_toArray, List.set_cons_zero, List.set_cons_succ]
            refine wpAnyH_take (i := 6) (v := ?_) rfl (by kernel_rfl) (by kernel_rfl) (by kernel_rfl) (fun _ _ _ h => h) (Or.inl ⟨by rfl, ?_⟩) (by assumption) ?_
            rotate_left
            · (intro Y hSw; (try dsimp only at hSw); obtain ⟨hS0, hS1, hS2, hS3⟩ := hSw; go_simp; try with_reducible rfl)
            try simp only [Act.put, List.getElem_toArray, List.getElem_cons_zero, List.getElem_cons_succ, List.setIfInBounds_toArray, List.set_cons_zero, List.set_cons_succ]
            refine wpAnyH_take (i := 7) (v := ?_) rfl (by kernel_rfl) (by kernel_rfl) (by kernel_rfl) (fun _ _ _ h => h) (Or.inl ⟨by rfl, ?_⟩) (by assumption) ?_
            rotate_left
            · (intro Y hSw; (try dsimp only at hSw); obtain ⟨hS0, hS1, hS2, hS3⟩ := hSw; go_simp; try with_reducible rfl)
            try simp only [Act.put, List.getElem_toArray, List.getElem_cons_zero, List.getElem_cons_succ, List.setIfInBounds_toArray, List.set_cons_zero, List.set_cons_succ]
            refine wpAnyH_take (i := 8) (v := ?_) rfl (by kernel_rfl) (by kernel_rfl) (by kernel_rfl) (fun _ _ _ h => h) (Or.inl ⟨by rfl, ?_⟩) (by assumption) ?_
            rotate_left
            · (intro Y hSw; (try dsimp only at hSw); obtain ⟨hS0, hS1, hS2, hS3⟩ := hSw; go_simp; try with_reducible rfl)
            try simp only [Act.put, List.getElem_toArray, List.getElem_cons_zero, List.getElem_cons_succ, List.setIfInBounds_toArray, List.set_cons_zero, List.set_cons_succ]
            refine wpAnyH_take (i := 9) (v := ?_) rfl (by kernel_rfl) (by kernel_rfl) (by kernel_rfl) (fun _ _ _ h => h) (Or.inl ⟨by rfl, ?_⟩) (by assumption) ?_
            rotate_left
            · (intro Y hSw; (try dsimp only at hSw); obtain ⟨hS0, hS1, hS2, hS3⟩ := hSw; go_simp; try with_reducible rfl)
            try simp only [Act.put, List.getElem_toArray, List.getElem_cons_zero, List.getElem_cons_succ, List.setIfInBounds_toArray, List.set_cons_zero, List.set_cons_succ]
            refine wpAnyH_take (i := 10) (v := ?_) rfl (by kernel_rfl) (by kernel_rfl) (by kernel_rfl) (fun _ _ _ h => h) (Or.inl ⟨by rfl, ?_⟩) (by assumption) ?_
            rotate_left
            · (intro Y hSw; (try dsimp only at hSw); obtain ⟨hS0, hS1, hS2, hS3⟩ := hSw; go_simp; try with_reducible rfl)
            try simp only [Act.put, List.getElem_toArray, List.getElem_cons_zero, List.getElem_cons_succ, List.setIfInBounds_toArray, List.set_cons_zero, List.set_cons_succ]
            refine wpAnyH_take (i := 11) (v := ?_) rfl (by kernel_rfl) (by kernel_rfl) (by kernel_rfl) (fun _ _ _ h => h) (Or.inl ⟨by rfl, ?_⟩) (by assumption) ?_
            rotate_left
            · (intro Y hSw; (try dsimp only at hSw); obtain ⟨hS0, hS1, hS2, hS3⟩ := hSw; go_simp; try with_reducible rfl)
            try simp only [Act.put, List.getElem_toArray, List.getElem_cons_zero, List.getElem_cons_succ, List.setIfInBounds_toArray, List.set_cons_zero, List.set_cons_succ]
            refine wpAnyH_take (i := 12) (v := ?_) rfl (by kernel_rfl) (by kernel_rfl) (by kernel_rfl) (fun _ _ _ h => h) (Or.inl ⟨by rfl, ?_⟩) (by assumption) ?_
            rotate_left
            · (intro Y hSw; (try dsimp only at hSw); obtain ⟨hS0, hS1, hS2, hS3⟩ := hSw; go_simp; try with_reducible rfl)
            try simp only [Act.put, List.getElem_toArray, List.getElem_cons_zero, List.getElem_cons_succ, List.setIfInBounds_toArray, List.set_cons_zero, List.set_cons_succ]
            by_cases hz : x = ⟨0, 0⟩
            · obtain rfl : bz = false := by rw [← HBZ.out]; exact decide_eq_false (fun h => h hz)
              clear HBZ
              subst hz
              refine wpAnyH_take (i := 13) (v := ?_) rfl (by kernel_rfl) (by kernel_rfl) (by kernel_rfl) (fun _ _ _ h => h) (Or.inl ⟨by rfl, ?_⟩) (by assumption) ?_
              rotate_left
              · (intro Y hSw; (try dsimp only at hSw); obtain ⟨hS0, hS1, hS2, hS3⟩ := hSw; go_simp; try with_reducible rfl)
              try simp only [Act.put, List.getElem_toArray, List.getElem_cons_zero, List.getElem_cons_succ, List.setIfInBounds_toArray, List.set_cons_zero, List.set_cons_succ]
              refine wpAnyH_take (i := 14) (v := ?_) rfl (by kernel_rfl) (by kernel_rfl) (by kernel_rfl) (fun _ _ _ h => h) (Or.inl ⟨by rfl, ?_⟩) (by assumption) ?_
              rotate_left
              · (intro Y hSw; (try dsimp only at hSw); obtain ⟨hS0, hS1, hS2, hS3⟩ := hSw; go_simp; try with_reducible rfl)
              try simp only [Act.put, List.getElem_toArray, List.getElem_cons_zero, List.getElem_cons_succ, List.setIfInBounds_toArray, List.set_cons_zero, List.set_cons_succ]
              refine wpAnyH_take (i := 15) (v := ?_) rfl (by kernel_rfl) (by kernel_rfl) (by kernel_rfl) (fun _ _ _ h => h) (Or.inl ⟨by rfl, ?_⟩) (by assumption) ?_
              rotate_left
              · (intro Y hSw; (try dsimp only at hSw); obtain ⟨hS0, hS1, hS2, hS3⟩ := hSw; go_simp; try with_reducible rfl)
              try simp only [Act.put, List.getElem_toArray, List.getElem_cons_zero, List.getElem_cons_succ, List.setIfInBounds_toArray, List.set_cons_zero, List.set_cons_succ]
              refine wpAnyH_done (by kernel_rfl) ?_ _
              rw [onlyN_normal]
              go_wp2_with fail
              exact ⟨⟨(k : Int) + 1, by omega, by omega, by go_num, hb6⟩, by simp [intOf]; omega⟩
            · obtain rfl : bz = true := by rw [← HBZ.out]; exact decide_eq_true hz
              have HZ := Lib.hid hz
              refine wpAnyH_take (i := 13) (v := .bool true) rfl (by kernel_rfl) (by kernel_rfl) (by kernel_rfl) (fun _ _ _ h => h) (Or.inl ⟨by rfl, by intro Y hSw; obtain ⟨xs, xg⟩ := x; go_simp; intro e1 e2; exact HZ.out (by rw [e1, e2])⟩) (by assumption) ?_
              try simp only [Act.put, List.getElem_toArray, List.getElem_cons_zero, List.getElem_cons_succ, List.setIfInBounds_toArray, List.set_cons_zero, List.set_cons_succ]
              refine wpAnyH_take (i := 14) (v := ?_) rfl (by kernel_rfl) (by kernel_rfl) (by kernel_rfl) (fun _ _ _ h => h) (Or.inl ⟨by rfl, ?_⟩) (by assumption) ?_
              rotate_left
              · (intro Y hSw; (try dsimp only at hSw); obtain ⟨hS0, hS1, hS2, hS3⟩ := hSw; go_simp; try with_reducible rfl)
              try simp only [Act.put, List.getElem_toArray, List.getElem_cons_zero, List.getElem_cons_succ, List.setIfInBounds_toArray, List.set_cons_zero, List.set_cons_succ]
              refine wpAnyH_take (i := 15) (v := ?_) rfl (by kernel_rfl) (by kernel_rfl) (by kernel_rfl) (fun _ _ _ h => h) (Or.inl ⟨by rfl, ?_⟩) (by assumption) ?_
              rotate_left
              · (intro Y hSw; (try dsimp only at hSw); obtain ⟨hS0, hS1, hS2, hS3⟩ := hSw; go_simp; try with_reducible rfl)
              try simp only [Act.put, List.getElem_toArray, List.getElem_cons_zero, List.getElem_cons_succ, List.setIfInBounds_toArray, List.set_cons_zero, List.set_cons_succ]
              refine wpAnyH_done (by kernel_rfl) ?_ _
              rw [onlyN_normal]
              clear hz
              go_wp2_with fail
              exact ⟨⟨(k : Int) + 1, by omega, by omega, by go_num, hb6⟩, by simp [intOf]; omega⟩
          · have hi' : inS t = false := by simpa using hi
            rw [hi']
            have hno : hasR T t = false := hasR_no.2 fun p hp e => by
              have h9 := HG.out.key p hp
              rw [e] at h9
              have : inS t = true := inS_iff.2 (by omega)
              rw [hi'] at this; cases this
            have hz : x = ⟨0, 0⟩ := by rw [← HXX.out]; exact getH_no hno
            subst hz
            obtain rfl : bz = false := by rw [← HBZ.out]; rfl
            clear hno hi hi' hx5 hX
            go_wp2_with fail
            exact ⟨⟨t + 1, by omega, by omega, by go_num, hb5⟩, by simp [intOf]; omega⟩
        · obtain rfl : t = 5 := by omega
          have hb9 := HKK.out.trans (hb.mono (by omega))
          clear hx hb
          go_wp2_with fail
          go_ret
          exact ⟨rfl, by rw [HS.out]; exact hb9⟩
end Go.Proofs.Ytchknegenaoliaa
