/-
  Packages pinfoldref15: the document's address of a spot; whose an address is. No condition.
-/
import Derived.Test.YtlpchcdalfkfcaaGreatBMeG
namespace Go.Proofs.YtlpchcdalfkfcaaGreat
open Go.RowKit
attribute [local go_sem] Oper.semAt_some
set_option maxHeartbeats 4000000
set_option maxRecDepth 8000

theorem rAt_ok (s c i : Int) (h : spE s c i = 0) (w : World) : Calls Tryz.prog 10 #[.agg #[.int .i64 s, .int .i64 c, .int .i64 i]] w fun e w' => e = .returned (.int .u32 (atIM s c i)) ∧ Below w.heap.size w w' := by
  obtain ⟨w0, hw0⟩ : ∃ w0, w.alloc (.cells #[.int .i64 s, .int .i64 c, .int .i64 i] 23) = w0 := ⟨_, rfl⟩
  have hX : Blk w0 w.heap.size #[.int .i64 s, .int .i64 c, .int .i64 i] 23 := by rw [← hw0]; exact Blk.new w _ _
  have k : Below w.heap.size w w0 := by rw [← hw0]; exact (Below.refl _ w).alloc (Nat.le_refl _) _
  obtain ⟨m0, m1⟩ := sp_bd h
  obtain ⟨_, _, p2, p3⟩ := at_page h
  obtain ⟨⟨⟨a0, a1⟩, a2, a3⟩, _, _⟩ := spE_zero.1 h
  have hsl : slotI s = true := by unfold slotI; exact decide_eq_true ⟨a0, a1⟩
  have hcl : inI 8 c = true := by unfold inI; exact decide_eq_true ⟨a2, a3⟩
  have hic : inC c = true := inC_iff.2 ⟨a2, a3⟩
  have HA := Lib.hid (show atIM s c i = 256 * (4096 * (s + 1) + 1 + 17 * c) + i * sltI c + 16 by unfold atIM regJ; omega)
  have hb0 : 0 ≤ 256 * (4096 * (s + 1) + 1 + 17 * c) + i * sltI c + 16 := by rw [← HA.out]; exact p2
  have hb1 : 256 * (4096 * (s + 1) + 1 + 17 * c) + i * sltI c + 16 < 16777216 := by rw [← HA.out]; exact p3
  have HS := Lib.hid (fun W => rSlt_calls c hic W)
  clear p2 p3 h
  generalize sltI c = q at *
  go_enter Tryz.func10, Tryz.ntmps10
  go_wp2_with fail
  clear hw0
  refine wp_onlyN ?_
  refine wp_region_held_drew (S := SpS w.heap.size s c i) (by kernel_rfl) (SpS.of hX) (fun hHeld => ?_)
  refine wpAnyH_take (i := 0) (v := ?_) rfl (by kernel_rfl) (by kernel_rfl) (by kernel_rfl) (fun _ _ _ h => h) (Or.inl ⟨by rfl, ?_⟩) (by assumption) ?_
  rotate_left
  · (intro Y hSw; (try dsimp only at hSw); obtain ⟨hS0, hS1, hS2⟩ := hSw; go_simp; try with_reducible rfl)
  try simp only [Act.put, List.getElem_toArray, List.getElem_cons_zero, List.getElem_cons_succ, List.setIfInBounds_toArray, List.set_cons_zero, List.set_cons_succ]
  refine wpAnyH_take (i := 1) (v := ?_) rfl (by kernel_rfl) (by kernel_rfl) (by kernel_rfl) (fun _ _ _ h => h) (Or.inl ⟨by rfl, ?_⟩) (by assumption) ?_
  rotate_left
  · (intro Y hSw; (try dsimp only at hSw); obtain ⟨hS0, hS1, hS2⟩ := hSw; go_simp; try with_reducible rfl)
  try simp only [Act.put, List.getElem_toArray, List.getElem_cons_zero, List.getElem_cons_succ, List.setIfInBounds_toArray, List.set_cons_zero, List.set_cons_succ]
  refine wpAnyH_take (i := 2) (v := ?_) rfl (by kernel_rfl) (by kernel_rfl) (by kernel_rfl) (fun _ _ _ h => h) (Or.inl ⟨by rfl, ?_⟩) (by assumption) ?_
  rotate_left
  · (intro Y hSw; (try dsimp only at hSw); obtain ⟨hS0, hS1, hS2⟩ := hSw; go_simp; try with_reducible rfl)
  try simp only [Act.put, List.getElem_toArray, List.getElem_cons_zero, List.getElem_cons_succ, List.setIfInBounds_toArray, List.set_cons_zero, List.set_cons_succ]
  refine wpAnyH_take (i := 3) (v := ?_) rfl (by kernel_rfl) (by kernel_rfl) (by kernel_rfl) (fun _ _ _ h => h) (Or.inl ⟨by rfl, ?_⟩) (by assumption) ?_
  rotate_left
  · (intro Y hSw; (try dsimp only at hSw); obtain ⟨hS0, hS1, hS2⟩ := hSw; go_simp; try with_reducible rfl)
  try simp only [Act.put, List.getElem_toArray, List.getElem_cons_zero, List.getElem_cons_succ, List.setIfInBounds_toArray, List.set_cons_zero, List.set_cons_succ]
  refine wpAnyH_take (i := 6) (v := ?_) rfl (by kernel_rfl) (by kernel_rfl) (by kernel_rfl) (fun _ _ _ h => h) (Or.inl ⟨by rfl, ?_⟩) (by assumption) ?_
  rotate_left
  · (intro Y hSw; (try dsimp only at hSw); obtain ⟨hS0, hS1, hS2⟩ := hSw; go_simp; try with_reducible rfl)
  try simp only [Act.put, List.getElem_toArray, List.getElem_cons_zero, List.getElem_cons_succ, List.setIfInBounds_toArray, List.set_cons_zero, List.set_cons_succ]
  refine wpAnyH_take (i := 7) (v := ?_) rfl (by kernel_rfl) (by kernel_rfl) (by kernel_rfl) (fun _ _ _ h => h) (Or.inl ⟨by rfl, ?_⟩) (by assumption) ?_
  rotate_left
  · (intro Y hSw; (try dsimp only at hSw); obtain ⟨hS0, hS1, hS2⟩ := hSw; go_simp; try with_reducible rfl)
  try simp only [Act.put, List.getElem_toArray, List.getElem_cons_zero, List.getElem_cons_succ, List.setIfInBounds_toArray, List.set_cons_zero, List.set_cons_succ]
  refine wpAnyH_take (i := 8) (v := ?_) rfl (by kernel_rfl) (by kernel_rfl) (by kernel_rfl) (fun _ _ _ h => h) (Or.inl ⟨by rfl, ?_⟩) (by assumption) ?_
  rotate_left
  · (intro Y hSw; (try dsimp only at hSw); obtain ⟨hS0, hS1, hS2⟩ := hSw; go_simp; try with_reducible rfl)
  try simp only [Act.put, List.getElem_toArray, List.getElem_cons_zero, List.getElem_cons_succ, List.setIfInBounds_toArray, List.set_cons_zero, List.set_cons_succ]
  refine wpAnyH_take (i := 9) (v := ?_) rfl (by kernel_rfl) (by kernel_rfl) (by kernel_rfl) (fun _ _ _ h => h) (Or.inl ⟨by rfl, ?_⟩) (by assumption) ?_
  rotate_left
  · (intro Y hSw; (try dsimp only at hSw); obtain ⟨hS0, hS1, hS2⟩ := hSw; go_simp; try with_reducible rfl)
  try simp only [Act.put, List.getElem_toArray, List.getElem_cons_zero, List.getElem_cons_succ, List.setIfInBounds_toArray, List.set_cons_zero, List.set_cons_succ]
  refine wpAnyH_ready (rs := [4]) (by kernel_rfl) (by simp) ?_
  refine AllReadyH.cons rfl (fun K hK => ?_) AllReadyH.nil
  go_simp
  refine (rRegion_calls s c hsl hcl _).mono ?_; rintro e _ ⟨rfl, rfl⟩
  go_wp2_with fail
  refine hK.out _ _ (hHeld) (fun hHeld => ?_)
  clear hK K
  try simp only [Act.put, List.getElem_toArray, List.getElem_cons_zero, List.getElem_cons_succ, List.setIfInBounds_toArray, List.set_cons_zero, List.set_cons_succ]
  refine wpAnyH_take (i := 5) (v := ?_) rfl (by kernel_rfl) (by kernel_rfl) (by kernel_rfl) (fun _ _ _ h => h) (Or.inl ⟨by rfl, ?_⟩) (by assumption) ?_
  rotate_left
  · (intro Y hSw; (try dsimp only at hSw); obtain ⟨hS0, hS1, hS2⟩ := hSw; go_simp; try with_reducible rfl)
  try simp only [Act.put, List.getElem_toArray, List.getElem_cons_zero, List.getElem_cons_succ, List.setIfInBounds_toArray, List.set_cons_zero, List.set_cons_succ]
  refine wpAnyH_ready (rs := [10]) (by kernel_rfl) (by simp) ?_
  refine AllReadyH.cons rfl (fun K hK => ?_) AllReadyH.nil
  go_simp
  refine (HS.out _).mono ?_; rintro e _ ⟨rfl, rfl⟩
  go_wp2_with fail
  refine hK.out _ _ (hHeld) (fun hHeld => ?_)
  clear hK K
  try simp only [Act.put, List.getElem_toArray, List.getElem_cons_zero, List.getElem_cons_succ, List.setIfInBounds_toArray, List.set_cons_zero, List.set_cons_succ]
  refine wpAnyH_take (i := 11) (v := ?_) rfl (by kernel_rfl) (by kernel_rfl) (by kernel_rfl) (fun _ _ _ h => h) (Or.inl ⟨by rfl, ?_⟩) (by assumption) ?_
  rotate_left
  · (intro Y hSw; (try dsimp only at hSw); obtain ⟨hS0, hS1, hS2⟩ := hSw; go_simp; try with_reducible rfl)
  try simp only [Act.put, List.getElem_toArray, List.getElem_cons_zero, List.getElem_cons_succ, List.setIfInBounds_toArray, List.set_cons_zero, List.set_cons_succ]
  refine wpAnyH_take (i := 12) (v := ?_) rfl (by kernel_rfl) (by kernel_rfl) (by kernel_rfl) (fun _ _ _ h => h) (Or.inl ⟨by rfl, ?_⟩) (by assumption) ?_
  rotate_left
  · (intro Y hSw; (try dsimp only at hSw); obtain ⟨hS0, hS1, hS2⟩ := hSw; go_simp; try with_reducible rfl)
  try simp only [Act.put, List.getElem_toArray, List.getElem_cons_zero, List.getElem_cons_succ, List.setIfInBounds_toArray, List.set_cons_zero, List.set_cons_succ]
  refine wpAnyH_take (i := 13) (v := ?_) rfl (by kernel_rfl) (by kernel_rfl) (by kernel_rfl) (fun _ _ _ h => h) (Or.inl ⟨by rfl, ?_⟩) (by assumption) ?_
  rotate_left
  · (intro Y hSw; (try dsimp only at hSw); obtain ⟨hS0, hS1, hS2⟩ := hSw; go_simp; try with_reducible rfl)
  try simp only [Act.put, List.getElem_toArray, List.getElem_cons_zero, List.getElem_cons_succ, List.setIfInBounds_toArray, List.set_cons_zero, List.set_cons_succ]
  refine wpAnyH_take (i := 14) (v := ?_) rfl (by kernel_rfl) (by kernel_rfl) (by kernel_rfl) (fun _ _ _ h => h) (Or.inl ⟨by rfl, ?_⟩) (by assumption) ?_
  rotate_left
  · (intro Y hSw; (try dsimp only at hSw); obtain ⟨hS0, hS1, hS2⟩ := hSw; go_simp; try with_reducible rfl)
  try simp only [Act.put, List.getElem_toArray, List.getElem_cons_zero, List.getElem_cons_succ, List.setIfInBounds_toArray, List.set_cons_zero, List.set_cons_succ]
  refine wpAnyH_take (i := 15) (v := ?_) rfl (by kernel_rfl) (by kernel_rfl) (by kernel_rfl) (fun _ _ _ h => h) (Or.inl ⟨by rfl, ?_⟩) (by assumption) ?_
  rotate_left
  · (intro Y hSw; (try dsimp only at hSw); obtain ⟨hS0, hS1, hS2⟩ := hSw; go_simp; try with_reducible rfl)
  try simp only [Act.put, List.getElem_toArray, List.getElem_cons_zero, List.getElem_cons_succ, List.setIfInBounds_toArray, List.set_cons_zero, List.set_cons_succ]
  refine wpAnyH_done (by kernel_rfl) ?_ _
  rw [onlyN_normal]
  go_wp2_with fail
  go_ret
  refine ⟨?_, k.drew⟩
  rw [HA.out]
  have Wr : ∀ x, 0 ≤ x → x < 16777216 → IntKind.i64.wrap x = x := fun x h1 h2 => IntWalk.i64_in _ (by omega)
  show Ending.returned (.int .u32 (IntKind.u32.wrap (IntKind.i64.wrap (IntKind.i64.wrap (IntKind.i64.wrap (256 * (4096 * (s + 1) + 1 + 17 * c)) + IntKind.i64.wrap (i * q)) + 16)))) = _
  rw [Wr (256 * (4096 * (s + 1) + 1 + 17 * c)) (by omega) (by omega), Wr (i * q) (by omega) (by omega), Wr (256 * (4096 * (s + 1) + 1 + 17 * c) + i * q) (by omega) (by omega), Wr _ hb0 hb1, show IntKind.u32.wrap (256 * (4096 * (s + 1) + 1 + 17 * c) + i * q + 16) = 256 * (4096 * (s + 1) + 1 + 17 * c) + i * q + 16 from IntWalk.u32_in _ (by omega)]
/-- No spot ahead of one has the address. -/
def NoneTo (a s c i : Int) : Prop := ∀ s' c' i', spE s' c' i' = 0 → (s' < s ∨ (s' = s ∧ (c' < c ∨ (c' = c ∧ i' < i)))) → atIM s' c' i' ≠ a
theorem rFind_ok (a : Int) (h0 : 0 ≤ a) (h1 : a < 4294967296) (w : World) : Calls Tryz.prog 12 #[.int .u32 a] w fun e w' => ∃ s c i no, e = .returned (.tuple #[.agg #[.int .i64 s, .int .i64 c, .int .i64 i], .int .i64 no]) ∧ FindSp a s c i no ∧ Below w.heap.size w w' := by
  obtain ⟨w0, hw0⟩ : ∃ w0, w.alloc (.cells #[.int .i64 0, .int .i64 0, .int .i64 0] 23) = w0 := ⟨_, rfl⟩
  have hR : Blk w0 w.heap.size #[.int .i64 0, .int .i64 0, .int .i64 0] 23 := by rw [← hw0]; exact Blk.new w _ _
  have k : Below w.heap.size w w0 := by rw [← hw0]; exact (Below.refl _ w).alloc (Nat.le_refl _) _
  obtain ⟨g, hg⟩ : ∃ g, w.heap.size = g := ⟨_, rfl⟩
  go_enter Tryz.func12, Tryz.ntmps12
  go_wp2_with fail
  clear hw0
  rw [hg] at hR
  go_loopw [4] (fun i wr => ∃ n : Nat, n ≤ 4 ∧ i = .int .i64 n ∧ NoneTo a n 0 0 ∧ Blk wr g #[.int .i64 0, .int .i64 0, .int .i64 0] 23 ∧ Below w.heap.size w wr) (fun i _ => 4 - (intOf i).toNat)
  case atStart => exact ⟨0, by omega, rfl, fun s' c' i' h1 h2 => by have := (spE_zero.1 h1); omega, hR, k⟩
  case round =>
    obtain ⟨n, hn, rfl, HN, hB, kr⟩ := hrel
    clear hR k
    have HNN := Lib.hid HN
    clear HN
    by_cases hlt : n < 4
    · go_wp2_with fail
      rw [show decide ((n : Int) < 4) = true from decide_eq_true (by omega)]
      go_loopw [5] (fun i wr => ∃ m : Nat, m ≤ 8 ∧ i = .int .i64 m ∧ NoneTo a n m 0 ∧ Blk wr g #[.int .i64 0, .int .i64 0, .int .i64 0] 23 ∧ Below w.heap.size w wr) (fun i _ => 8 - (intOf i).toNat)
      case atStart => exact ⟨0, by omega, rfl, fun s' c' i' h1 h2 => by have h3 := spE_zero.1 h1; exact HNN.out s' c' i' h1 (by omega), hB, kr⟩
      case round =>
        obtain ⟨m, hm, rfl, HN, hB, kr⟩ := hrel
        clear HNN
        have HNN := Lib.hid HN
        clear HN
        by_cases hlt2 : m < 8
        · have hic : inC m = true := inC_iff.2 (by omega)
          have hcb : 0 ≤ cntIM m ∧ cntIM m ≤ 85 := by rcases cls8 (c := m) (by omega) (by omega) with e | e | e | e | e | e | e | e <;> rw [e] <;> decide
          obtain ⟨cn, hcn⟩ : ∃ cn : Nat, cntIM m = cn := ⟨(cntIM m).toNat, by omega⟩
          have HC := Lib.hid (fun W => rCnt_calls m hic W)
          rw [hcn] at HC hcb
          have HCN := Lib.hid hcn
          clear hcn hic
          go_wp2_with fail
          rw [show decide ((m : Int) < 8) = true from decide_eq_true (by omega)]
          go_loopw [6] (fun i wr => ∃ j : Nat, j ≤ cn ∧ i = .int .i64 j ∧ NoneTo a n m j ∧ Blk wr g #[.int .i64 0, .int .i64 0, .int .i64 0] 23 ∧ Below w.heap.size w wr) (fun i _ => cn - (intOf i).toNat)
          case atStart => exact ⟨0, by omega, rfl, fun s' c' i' h1 h2 => by have h3 := spE_zero.1 h1; exact HNN.out s' c' i' h1 (by omega), hB, kr⟩
          case round =>
            obtain ⟨j, hj, rfl, HN, hB, kr⟩ := hrel
            clear HNN
            have HNN := Lib.hid HN
            clear HN
            go_wp2_with fail
            refine (HC.out _).mono ?_; rintro e _ ⟨rfl, rfl⟩
            by_cases hlt3 : j < cn
            · have hz : spE n m j = 0 := spE_zero.2 ⟨⟨by omega, by omega⟩, by rw [HCN.out]; omega⟩
              go_wp2_with fail
              obtain ⟨w2, hw2⟩ : ∃ w2, wr.alloc (.cells #[.int .i64 n, .int .i64 m, .int .i64 j] 23) = w2 := ⟨_, rfl⟩
              have hP : Blk w2 wr.heap.size #[.int .i64 n, .int .i64 m, .int .i64 j] 23 := by rw [← hw2]; exact Blk.new wr _ _
              have hB2 : Blk w2 g #[.int .i64 0, .int .i64 0, .int .i64 0] 23 := by rw [← hw2]; exact hB.alloc _
              have k2 : Below w.heap.size w w2 := by rw [← hw2]; exact kr.alloc kr.size _
              have hne := hB.lt
              rw [hw2]
              clear hw2 hB kr
              obtain ⟨pb, hpb⟩ : ∃ pb, wr.heap.size = pb := ⟨_, rfl⟩
              rw [hpb] at hP hne
              try simp only [hpb]
              clear hpb
              refine (rAt_ok n m j hz _).mono ?_; rintro e w3 ⟨rfl, h3⟩
              have hP3 := hP.below h3 hP.lt
              have hB3 := hB2.below h3 hB2.lt
              have k3 := k2.trans (h3.mono k2.size)
              clear h3 hP hB2 k2
              have z1 := hB3.lt
              have z2 := hP3.lt
              have r0 := hB3.cell 0 (v := .int .i64 0) rfl
              have r1 := hB3.cell 1 (v := .int .i64 0) rfl
              have r2 := hB3.cell 2 (v := .int .i64 0) rfl
              have f0 := hB3.frozen 0
              have f1 := hB3.frozen 1
              have f2 := hB3.frozen 2
              have d0 := hP3.cell 0 (v := .int .i64 n) rfl
              have d1 := hP3.cell 1 (v := .int .i64 m) rfl
              have d2 := hP3.cell 2 (v := .int .i64 j) rfl
              have HZ := Lib.hid hz
              clear hz
              by_cases hy : atIM n m j = a
              · rw [hy]
                have HY := Lib.hid hy
                clear hy
                go_wp2_with fail
                refine ret_s2 Tryz.results12 g (by rfl) (hB3.set3 (.int .i64 n) (.int .i64 m) (.int .i64 j)) rfl rfl ⟨n, m, j, 0, rfl, .inl ⟨rfl, HZ.out, HY.out⟩, ?_⟩
                exact ((k3.setCell (Nat.le_of_eq hg) _).setCell (Nat.le_of_eq hg) _).setCell (Nat.le_of_eq hg) _
              · have hy1 : (atIM n m j == a) = false := by simpa using hy
                have HN := Lib.hid (show NoneTo a n m ((j + 1 : Nat) : Int) from fun s' c' i' h1 h2 => by
                  by_cases e : s' = n ∧ c' = m ∧ i' = j
                  · obtain ⟨rfl, rfl, rfl⟩ := e
                    exact hy
                  · exact HNN.out s' c' i' h1 (by omega))
                generalize atIM n m j = y at hy hy1 ⊢
                clear HNN
                go_wp2_with fail
                exact ⟨⟨j + 1, by omega, by go_num, HN.out, hB3, k3⟩, by simp [intOf]; omega⟩
            · obtain rfl : j = cn := by omega
              have HN := Lib.hid (show NoneTo a n ((m + 1 : Nat) : Int) 0 from fun s' c' i' h1 h2 => by
                have h3 := spE_zero.1 h1
                by_cases e : s' = n ∧ c' = m
                · obtain ⟨rfl, rfl⟩ := e
                  rw [HCN.out] at h3
                  exact HNN.out _ _ i' h1 (by omega)
                · exact HNN.out s' c' i' h1 (by omega))
              clear HNN
              go_wp2_with fail
              exact ⟨⟨m + 1, by omega, by go_num, HN.out, hB, kr⟩, by simp [intOf]; omega⟩
        · obtain rfl : m = 8 := by omega
          have HN := Lib.hid (show NoneTo a ((n + 1 : Nat) : Int) 0 0 from fun s' c' i' h1 h2 => by
            have h3 := spE_zero.1 h1
            exact HNN.out s' c' i' h1 (by omega))
          clear HNN
          go_wp2_with fail
          exact ⟨⟨n + 1, by omega, by go_num, HN.out, hB, kr⟩, by simp [intOf]; omega⟩
    · obtain rfl : n = 4 := by omega
      have z1 := hB.lt
      have r0 := hB.cell 0 (v := .int .i64 0) rfl
      have r1 := hB.cell 1 (v := .int .i64 0) rfl
      have r2 := hB.cell 2 (v := .int .i64 0) rfl
      have f0 := hB.frozen 0
      have f1 := hB.frozen 1
      have f2 := hB.frozen 2
      go_wp2_with fail
      refine ret_s2 Tryz.results12 g (by rfl) (hB.set3 (.int .i64 0) (.int .i64 0) (.int .i64 0)) rfl rfl ⟨0, 0, 0, 250, rfl, .inr ⟨⟨rfl, rfl, rfl, rfl⟩, fun s c i h1 h2 => HNN.out s c i h1 (by have := spE_zero.1 h1; omega) h2⟩, ?_⟩
      exact ((kr.setCell (Nat.le_of_eq hg) _).setCell (Nat.le_of_eq hg) _).setCell (Nat.le_of_eq hg) _
end Go.Proofs.YtlpchcdalfkfcaaGreat
