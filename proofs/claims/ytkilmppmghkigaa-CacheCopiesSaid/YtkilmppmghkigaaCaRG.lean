/-
  Package cache: Copy, Same. Conditions: shelves of fewer than a million.
-/
import Derived.Test.YtkilmppmghkigaaCaRF
namespace Go.Proofs.Ytkilmppmghkigaa
open Go.RowKit
attribute [local go_sem] Oper.semAt_some
set_option maxHeartbeats 4000000
set_option maxRecDepth 8000

def cpTo (L : Nat → List Int) (m : Nat) : Nat → List Int := fun i => if i < m then L i else []
theorem cpTo_zero (L : Nat → List Int) : cpTo L 0 = fun _ => [] := rfl
theorem cpTo_succ (L : Nat → List Int) (m : Nat) : upd (cpTo L m) m (L m) = cpTo L (m + 1) := by
  funext i
  unfold upd cpTo
  by_cases e : i = m
  · rw [if_pos e, if_pos (by omega), e]
  · rw [if_neg e]
    by_cases h : i < m
    · rw [if_pos h, if_pos (by omega)]
    · rw [if_neg h, if_neg (by omega)]
structure CpS (w W : World) (c : Nat) (L : Nat → List Int) (m : Nat) : Prop where
  sh : ShAt W c (cpTo L m)
  bel : Below w.heap.size w W
theorem Copy_ok {w : World} {s : Nat} {L : Nat → List Int} (hS : ShAt w s L) (hL : ∀ i, (L i).length < 1000000) : Calls Try.prog 20 #[.pointer (some ⟨s, 0, none⟩)] w fun e w' =>
    ∃ c, e = .returned (.pointer (some ⟨c, 0, none⟩)) ∧ w.heap.size ≤ c ∧ ShAt w' c L ∧ Below w.heap.size w w' := by
  go_enter Try.func20, Try.ntmps20
  go_wp2_with fail
  refine (none_live hS).mono ?_; rintro e w1 ⟨rfl, k1⟩
  go_wp2_with fail
  refine (New_calls w1).mono ?_; rintro e w2 ⟨rfl, hc, k2⟩
  have z1 := k1.size
  have z2 := k2.size
  have h2 : CpS w w2 w1.heap.size L 0 := ⟨by rw [cpTo_zero]; exact hc, k1.trans (k2.mono z1)⟩
  obtain ⟨c, hcc⟩ : ∃ c, w1.heap.size = c := ⟨_, rfl⟩
  rw [hcc] at h2 z1 ⊢
  clear hc k1 k2 z2 hcc
  go_wp2_with fail
  go_loopw [9] (fun i wr => ∃ k : Nat, k ≤ 4 ∧ i = .int .i64 k ∧ CpS w wr c L (k * 8)) (fun i _ => 4 - (intOf i).toNat)
  case atStart => exact ⟨0, by omega, rfl, h2⟩
  case round =>
    obtain ⟨a, ha, rfl, hr⟩ := hrel
    clear h2
    by_cases hlt : a < 4
    · have i0 : (0 : Int) ≤ a := by omega
      have i1 : (a : Int) < 4 := by omega
      go_wp2_with fail
      go_loopw [12] (fun i wr => ∃ k : Nat, k ≤ 8 ∧ i = .int .i64 k ∧ CpS w wr c L (a * 8 + k)) (fun i _ => 8 - (intOf i).toNat)
      case atStart => exact ⟨0, by omega, rfl, hr⟩
      case round =>
        obtain ⟨b, hb, rfl, hq⟩ := hrel
        clear hr
        by_cases hlt2 : b < 8
        · have j0 : (0 : Int) ≤ b := by omega
          have j1 : (b : Int) < 8 := by omega
          have hSr := hS.step hq.bel
          have hsl := hSr.lt
          have hsw := hS.lt
          obtain ⟨v, q1, _, hrow⟩ := hSr.row (a * 8 + b) (by omega)
          obtain ⟨sa, sc, rfl, _⟩ := hrow.len
          have hlm := hL (a * 8 + b)
          obtain ⟨l, hl⟩ : ∃ l, L (a * 8 + b) = l := ⟨_, rfl⟩
          rw [hl] at hlm q1 hrow
          have HRW := Lib.hid (hrow.below (Below.refl wr.heap.size wr).drew (Nat.le_refl _))
          have HL := Lib.hid hl
          clear hrow hl
          go_wp2_with fail
          refine wp_region_held_drew (S := CelS s (a * 8 + b) (.slice sa l.length sc)) (by kernel_rfl) ⟨q1⟩ (fun hHeld => ?_)
          refine wpAnyH_take (i := 0) (v := ?_) rfl (by kernel_rfl) (by kernel_rfl) (by kernel_rfl) (fun _ _ _ h => h) (Or.inl ⟨by rfl, ?_⟩) (by assumption) ?_
          rotate_left
          · (intro Y hSw; (try dsimp only at hSw); obtain ⟨hS1⟩ := hSw; go_simp; try with_reducible rfl)
          try simp only [Act.put, List.getElem_toArray, List.getElem_cons_zero, List.getElem_cons_succ, List.setIfInBounds_toArray, List.set_cons_zero, List.set_cons_succ]
          refine wpAnyH_take (i := 1) (v := ?_) rfl (by kernel_rfl) (by kernel_rfl) (by kernel_rfl) (fun _ _ _ h => h) (Or.inl ⟨by rfl, ?_⟩) (by assumption) ?_
          rotate_left
          · (intro Y hSw; (try dsimp only at hSw); obtain ⟨hS1⟩ := hSw; go_simp; try with_reducible rfl)
          try simp only [Act.put, List.getElem_toArray, List.getElem_cons_zero, List.getElem_cons_succ, List.setIfInBounds_toArray, List.set_cons_zero, List.set_cons_succ]
          refine wpAnyH_take (i := 2) (v := ?_) rfl (by kernel_rfl) (by kernel_rfl) (by kernel_rfl) (fun _ _ _ h => h) (Or.inl ⟨by rfl, ?_⟩) (by assumption) ?_
          rotate_left
          · (intro Y hSw; (try dsimp only at hSw); obtain ⟨hS1⟩ := hSw; go_simp; try with_reducible rfl)
          try simp only [Act.put, List.getElem_toArray, List.getElem_cons_zero, List.getElem_cons_succ, List.setIfInBounds_toArray, List.set_cons_zero, List.set_cons_succ]
          refine wpAnyH_take (i := 3) (v := ?_) rfl (by kernel_rfl) (by kernel_rfl) (by kernel_rfl) (fun _ _ _ h => h) (Or.inl ⟨by rfl, ?_⟩) (by assumption) ?_
          rotate_left
          · (intro Y hSw; (try dsimp only at hSw); obtain ⟨hS1⟩ := hSw; go_simp; try with_reducible rfl)
          try simp only [Act.put, List.getElem_toArray, List.getElem_cons_zero, List.getElem_cons_succ, List.setIfInBounds_toArray, List.set_cons_zero, List.set_cons_succ]
          refine wpAnyH_take (i := 4) (v := ?_) rfl (by kernel_rfl) (by kernel_rfl) (by kernel_rfl) (fun _ _ _ h => h) (Or.inl ⟨by rfl, ?_⟩) (by assumption) ?_
          rotate_left
          · (intro Y hSw; (try dsimp only at hSw); obtain ⟨hS1⟩ := hSw; go_simp; try with_reducible rfl)
          try simp only [Act.put, List.getElem_toArray, List.getElem_cons_zero, List.getElem_cons_succ, List.setIfInBounds_toArray, List.set_cons_zero, List.set_cons_succ]
          refine wpAnyH_take (i := 6) (v := ?_) rfl (by kernel_rfl) (by kernel_rfl) (by kernel_rfl) (fun _ _ _ h => h) (Or.inl ⟨by rfl, ?_⟩) (by assumption) ?_
          rotate_left
          · (intro Y hSw; (try dsimp only at hSw); obtain ⟨hS1⟩ := hSw; go_simp; try with_reducible rfl)
          try simp only [Act.put, List.getElem_toArray, List.getElem_cons_zero, List.getElem_cons_succ, List.setIfInBounds_toArray, List.set_cons_zero, List.set_cons_succ]
          refine wpAnyH_take (i := 7) (v := ?_) rfl (by kernel_rfl) (by kernel_rfl) (by kernel_rfl) (fun _ _ _ h => h) (Or.inl ⟨by rfl, ?_⟩) (by assumption) ?_
          rotate_left
          · (intro Y hSw; (try dsimp only at hSw); obtain ⟨hS1⟩ := hSw; go_simp; try with_reducible rfl)
          try simp only [Act.put, List.getElem_toArray, List.getElem_cons_zero, List.getElem_cons_succ, List.setIfInBounds_toArray, List.set_cons_zero, List.set_cons_succ]
          refine wpAnyH_take (i := 8) (v := ?_) rfl (by kernel_rfl) (by kernel_rfl) (by kernel_rfl) (fun _ _ _ h => h) (Or.inl ⟨by rfl, ?_⟩) (by assumption) ?_
          rotate_left
          · (intro Y hSw; (try dsimp only at hSw); obtain ⟨hS1⟩ := hSw; go_simp; try with_reducible rfl)
          try simp only [Act.put, List.getElem_toArray, List.getElem_cons_zero, List.getElem_cons_succ, List.setIfInBounds_toArray, List.set_cons_zero, List.set_cons_succ]
          refine wpAnyH_take (i := 9) (v := ?_) rfl (by kernel_rfl) (by kernel_rfl) (by kernel_rfl) (fun _ _ _ h => h) (Or.inl ⟨by rfl, ?_⟩) (by assumption) ?_
          rotate_left
          · (intro Y hSw; (try dsimp only at hSw); obtain ⟨hS1⟩ := hSw; go_simp; try with_reducible rfl)
          try simp only [Act.put, List.getElem_toArray, List.getElem_cons_zero, List.getElem_cons_succ, List.setIfInBounds_toArray, List.set_cons_zero, List.set_cons_succ]
          refine wpAnyH_take (i := 10) (v := ?_) rfl (by kernel_rfl) (by kernel_rfl) (by kernel_rfl) (fun _ _ _ h => h) (Or.inl ⟨by rfl, ?_⟩) (by assumption) ?_
          rotate_left
          · (intro Y hSw; (try dsimp only at hSw); obtain ⟨hS1⟩ := hSw; go_simp; try with_reducible rfl)
          try simp only [Act.put, List.getElem_toArray, List.getElem_cons_zero, List.getElem_cons_succ, List.setIfInBounds_toArray, List.set_cons_zero, List.set_cons_succ]
          refine wpAnyH_ready (rs := [5]) (by kernel_rfl) (by simp) ?_
          refine AllReadyH.cons rfl (fun K hK => ?_) AllReadyH.nil
          go_simp
          refine (on_calls c a b (by omega) (by omega) _).mono ?_; rintro e _ ⟨rfl, rfl⟩
          go_wp2_with fail
          refine hK.out _ _ (hHeld) (fun hHeld => ?_)
          clear hK K
          try simp only [Act.put, List.getElem_toArray, List.getElem_cons_zero, List.getElem_cons_succ, List.setIfInBounds_toArray, List.set_cons_zero, List.set_cons_succ]
          refine wpAnyH_ready (rs := [11]) (by kernel_rfl) (by simp) ?_
          refine AllReadyH.cons rfl (fun K hK => ?_) AllReadyH.nil
          go_simp
          refine (on_calls s a b (by omega) (by omega) _).mono ?_; rintro e _ ⟨rfl, rfl⟩
          go_wp2_with fail
          refine hK.out _ _ (hHeld) (fun hHeld => ?_)
          clear hK K
          try simp only [Act.put, List.getElem_toArray, List.getElem_cons_zero, List.getElem_cons_succ, List.setIfInBounds_toArray, List.set_cons_zero, List.set_cons_succ]
          refine wpAnyH_take (i := 12) (v := ?_) rfl (by kernel_rfl) (by kernel_rfl) (by kernel_rfl) (fun _ _ _ h => h) (Or.inl ⟨by rfl, ?_⟩) (by assumption) ?_
          rotate_left
          · (intro Y hSw; (try dsimp only at hSw); obtain ⟨hS1⟩ := hSw; go_simp; try with_reducible rfl)
          try simp only [Act.put, List.getElem_toArray, List.getElem_cons_zero, List.getElem_cons_succ, List.setIfInBounds_toArray, List.set_cons_zero, List.set_cons_succ]
          refine wpAnyH_take (i := 13) (v := ?_) rfl (by kernel_rfl) (by kernel_rfl) (by kernel_rfl) (fun _ _ _ h => h) (Or.inl ⟨by rfl, ?_⟩) (by assumption) ?_
          rotate_left
          · (intro Y hSw; (try dsimp only at hSw); obtain ⟨hS1⟩ := hSw; go_simp; try with_reducible rfl)
          try simp only [Act.put, List.getElem_toArray, List.getElem_cons_zero, List.getElem_cons_succ, List.setIfInBounds_toArray, List.set_cons_zero, List.set_cons_succ]
          refine wpAnyH_ready (rs := [14]) (by kernel_rfl) (by simp) ?_
          refine AllReadyH.cons rfl (fun K hK => ?_) AllReadyH.nil
          go_simp
          refine (clone_ok _ l wr.heap.size wr.drew (Nat.le_refl _) hlm HRW.out).mono ?_; rintro e w5 ⟨v5, rfl, ho5, k5⟩
          have hz5 := k5.size
          have hS5 := hq.sh.step ((Below.refl wr.heap.size wr).drew.trans k5)
          have kb5 := hq.bel.drew.trans (k5.mono (by exact hq.bel.size))
          have qq5 : w5.cell? ⟨s, a * 8 + b, none⟩ = some (.slice sa l.length sc) := (k5.cell (p := ⟨s, a * 8 + b, none⟩) hsl).trans q1
          obtain ⟨a5, c5, rfl, _⟩ := (RowAt.of_owns ho5 (Nat.le_refl _)).len
          obtain ⟨v9, q9, f9, _⟩ := hS5.row (a * 8 + b) (by omega)
          have hset := hS5.set (a * 8 + b) (by omega) l (RowAt.of_owns ho5 (Nat.le_refl _))
          rw [← HL.out] at hset
          rw [cpTo_succ, HL.out] at hset
          have HSET := Lib.hid hset
          clear hset ho5
          go_wp2_with fail
          refine hK.out _ _ (⟨qq5⟩) (fun hHeld => ?_)
          clear hK K
          try simp only [Act.put, List.getElem_toArray, List.getElem_cons_zero, List.getElem_cons_succ, List.setIfInBounds_toArray, List.set_cons_zero, List.set_cons_succ]
          refine wpAnyH_take (i := 15) (v := ?_) rfl (by kernel_rfl) (by kernel_rfl) (by kernel_rfl) (fun _ _ _ h => h) (Or.inl ⟨by rfl, ?_⟩) (by assumption) ?_
          rotate_left
          · (intro Y hSw; (try dsimp only at hSw); obtain ⟨hS1⟩ := hSw; go_simp; try with_reducible rfl)
          try simp only [Act.put, List.getElem_toArray, List.getElem_cons_zero, List.getElem_cons_succ, List.setIfInBounds_toArray, List.set_cons_zero, List.set_cons_succ]
          refine wpAnyH_ready (rs := [16]) (by kernel_rfl) (by simp) ?_
          refine AllReadyH.cons rfl (fun K hK => ?_) AllReadyH.nil
          go_simp
          refine hK.out _ _ (⟨(World.cell?_setCell_far w5 ⟨c, a * 8 + b, none⟩ ⟨s, a * 8 + b, none⟩ _ (by show c ≠ s; omega)).trans qq5⟩) (fun hHeld => ?_)
          clear hK K
          try simp only [Act.put, List.getElem_toArray, List.getElem_cons_zero, List.getElem_cons_succ, List.setIfInBounds_toArray, List.set_cons_zero, List.set_cons_succ]
          refine wpAnyH_done (by kernel_rfl) ?_ _
          go_wp2_with fail
          exact ⟨⟨b + 1, by omega, by go_num, HSET.out, kb5.setCell (p := ⟨c, a * 8 + b, none⟩) z1 _⟩, by simp [intOf]; omega⟩
        · obtain rfl : b = 8 := by omega
          go_wp2_with fail
          exact ⟨⟨a + 1, by omega, by go_num, by rw [show (a + 1) * 8 = a * 8 + 8 by omega]; exact hq⟩, by simp [intOf]; omega⟩
    · obtain rfl : a = 4 := by omega
      go_wp2_with fail
      go_ret
      exact ⟨c, rfl, z1, hr.sh.congr (fun i hi => by unfold cpTo; rw [if_pos hi]), hr.bel⟩
def sameB (L1 L2 : Nat → List Int) (m : Nat) : Bool := (List.range m).all fun i => decide (L1 i = L2 i)
theorem equal_ok (v1 v2 : Value) (l1 l2 : List Int) (B1 B2 : Nat) (w : World) (hl1 : l1.length < 1000000) (hl2 : l2.length < 1000000) (hv1 : RowAt B1 w v1 l1.length (intVals .i64 l1)) (hv2 : RowAt B2 w v2 l2.length (intVals .i64 l2)) (hB1 : B1 ≤ w.heap.size) (hB2 : B2 ≤ w.heap.size) :
    Calls Try.prog 45 #[v1, v2] w fun e w' => e = .returned (.bool (decide (l1 = l2))) ∧ Below w.heap.size w w' := by
  obtain ⟨d, hd⟩ : ∃ d, decide (l1 = l2) = d := ⟨_, rfl⟩
  rw [hd]
  have HD := Lib.hid hd
  have H1 := Lib.hid hv1
  have H2 := Lib.hid hv2
  obtain ⟨a1, c1, rfl, _⟩ := hv1.len
  obtain ⟨a2, c2, rfl, _⟩ := hv2.len
  clear hd hv1 hv2
  by_cases he : l1.length = l2.length
  · have hne : ((l1.length : Int) != l2.length) = false := by rw [he]; simp
    have HE := Lib.hid he
    clear he
    go_enter Try.func45, Try.ntmps45
    go_wp2_with fail
    go_loopw [13] (fun i wr => ∃ k : Nat, k ≤ l1.length ∧ i = .int .i64 k ∧ (∀ j (h1 : j < l1.length) (h2 : j < l2.length), j < k → l1[j] = l2[j]) ∧ Below w.heap.size w wr) (fun i _ => l1.length - (intOf i).toNat)
    case atStart => exact ⟨0, by omega, rfl, fun j _ _ hj => by omega, Below.refl _ _⟩
    case round =>
      obtain ⟨k, hk, rfl, hn, hb⟩ := hrel
      have HN := Lib.hid hn
      clear hn
      by_cases hlt : k < l1.length
      · have hlt2 : k < l2.length := by rw [← HE.out]; exact hlt
        obtain ⟨b1, o1, rfl, _, q1⟩ := (H1.out.below hb hB1).geti k hlt
        obtain ⟨b2, o2, rfl, _, q2⟩ := (H2.out.below hb hB2).geti k hlt2
        have i0 : (0 : Int) ≤ k := by omega
        have i1 : (k : Int) < l1.length := by omega
        have i2 : (k : Int) < l2.length := by omega
        by_cases hx : l1[k] = l2[k]
        · have hx' : (l1[k] != l2[k]) = false := by simpa using hx
          have HX := Lib.hid hx
          clear hx
          go_wp2_with fail
          go_quiet (fail)
          go_wp2_with fail
          refine ⟨⟨k + 1, by omega, by go_num, fun j h1 h2 hj => ?_, hb.drewN _⟩, by simp [intOf]; omega⟩
          by_cases e : j = k
          · subst e; exact HX.out
          · exact HN.out j h1 h2 (by omega)
        · have hx' : (l1[k] != l2[k]) = true := by simpa using hx
          have hdf : d = false := by
            rw [← HD.out, decide_eq_false_iff_not]
            intro e
            exact hx (by subst e; rfl)
          subst hdf
          clear hx
          go_wp2_with fail
          go_quiet (fail)
          go_wp2_with fail
          go_ret
          exact ⟨rfl, hb.drewN _⟩
      · obtain rfl : k = l1.length := by omega
        have hdt : d = true := by
          rw [← HD.out, decide_eq_true_eq]
          exact List.ext_getElem HE.out fun j h1 h2 => HN.out j h1 h2 h1
        subst hdt
        go_wp2_with fail
        go_ret
        exact ⟨rfl, hb⟩
  · have hne : ((l1.length : Int) != l2.length) = true := by simp; omega
    have hdf : d = false := by
      rw [← HD.out, decide_eq_false_iff_not]
      intro e
      exact he (by rw [e])
    subst hdf
    clear he
    go_enter Try.func45, Try.ntmps45
    go_wp2_with fail
    go_ret
    exact ⟨rfl, Below.refl _ _⟩
structure SameS (s1 s2 i : Nat) (v1 v2 : Value) (Y : World) : Prop where
  c1 : Y.cell? ⟨s1, i, none⟩ = some v1
  c2 : Y.cell? ⟨s2, i, none⟩ = some v2
theorem sameB_no {L1 L2 : Nat → List Int} {m i : Nat} (hi : i < m) (h : L1 i ≠ L2 i) : sameB L1 L2 m = false := by
  rw [Bool.eq_false_iff]
  intro e
  unfold sameB at e
  rw [List.all_eq_true] at e
  exact h (by simpa using e i (List.mem_range.2 hi))
theorem sameB_yes {L1 L2 : Nat → List Int} {m : Nat} (h : ∀ i, i < m → L1 i = L2 i) : sameB L1 L2 m = true := by
  unfold sameB
  rw [List.all_eq_true]
  intro i hi
  simpa using h i (List.mem_range.1 hi)
theorem Same_ok {w : World} {s1 s2 : Nat} {L1 L2 : Nat → List Int} (hS1 : ShAt w s1 L1) (hS2 : ShAt w s2 L2) (hL1 : ∀ i, (L1 i).length < 1000000) (hL2 : ∀ i, (L2 i).length < 1000000) : Calls Try.prog 19 #[.pointer (some ⟨s1, 0, none⟩), .pointer (some ⟨s2, 0, none⟩)] w fun e w' =>
    e = .returned (.bool (sameB L1 L2 32)) ∧ Below w.heap.size w w' := by
  obtain ⟨d, hd⟩ : ∃ d, sameB L1 L2 32 = d := ⟨_, rfl⟩
  rw [hd]
  have HD := Lib.hid hd
  clear hd
  go_enter Try.func19, Try.ntmps19
  go_wp2_with fail
  refine (none_live hS1).mono ?_; rintro e w1 ⟨rfl, k1⟩
  go_wp2_with fail
  refine (none_live (hS2.step k1)).mono ?_; rintro e w2 ⟨rfl, k2⟩
  have kb := k1.trans (k2.mono k1.size)
  clear k1 k2
  go_wp2_with fail
  go_loopw [19] (fun i wr => ∃ k : Nat, k ≤ 4 ∧ i = .int .i64 k ∧ Below w.heap.size w wr ∧ ∀ j, j < k * 8 → L1 j = L2 j) (fun i _ => 4 - (intOf i).toNat)
  case atStart => exact ⟨0, by omega, rfl, kb, fun j hj => by omega⟩
  case round =>
    obtain ⟨a, ha, rfl, hr, hn⟩ := hrel
    have HN := Lib.hid hn
    clear kb hn
    by_cases hlt : a < 4
    · have i0 : (0 : Int) ≤ a := by omega
      have i1 : (a : Int) < 4 := by omega
      go_wp2_with fail
      go_loopw [22] (fun i wr => ∃ k : Nat, k ≤ 8 ∧ i = .int .i64 k ∧ Below w.heap.size w wr ∧ ∀ j, j < a * 8 + k → L1 j = L2 j) (fun i _ => 8 - (intOf i).toNat)
      case atStart => exact ⟨0, by omega, rfl, hr, HN.out⟩
      case round =>
        obtain ⟨b, hb, rfl, kr, hn2⟩ := hrel
        have HN2 := Lib.hid hn2
        clear hr hn2
        by_cases hlt2 : b < 8
        · have j0 : (0 : Int) ≤ b := by omega
          have j1 : (b : Int) < 8 := by omega
          obtain ⟨v1, q1, _, r1⟩ := (hS1.step kr).row (a * 8 + b) (by omega)
          obtain ⟨v2, q2, _, r2⟩ := (hS2.step kr).row (a * 8 + b) (by omega)
          obtain ⟨sa1, sc1, rfl, _⟩ := r1.len
          obtain ⟨sa2, sc2, rfl, _⟩ := r2.len
          have hl1 := hL1 (a * 8 + b)
          have hl2 := hL2 (a * 8 + b)
          obtain ⟨x1, hx1⟩ : ∃ l, L1 (a * 8 + b) = l := ⟨_, rfl⟩
          obtain ⟨x2, hx2⟩ : ∃ l, L2 (a * 8 + b) = l := ⟨_, rfl⟩
          rw [hx1] at q1 r1 hl1
          rw [hx2] at q2 r2 hl2
          have HX1 := Lib.hid hx1
          have HX2 := Lib.hid hx2
          have HR1 := Lib.hid (r1.below (Below.refl wr.heap.size wr).drew (Nat.le_refl _))
          have HR2 := Lib.hid (r2.below (Below.refl wr.heap.size wr).drew (Nat.le_refl _))
          have hz := kr.size
          obtain ⟨q, hq⟩ : ∃ q, decide (x1 = x2) = q := ⟨_, rfl⟩
          have HQ := Lib.hid hq
          clear r1 r2 hx1 hx2 hq
          go_wp2_with fail
          refine wp_region_held_drew (S := SameS s1 s2 (a * 8 + b) (.slice sa1 x1.length sc1) (.slice sa2 x2.length sc2)) (by kernel_rfl) ⟨q1, q2⟩ (fun hHeld => ?_)
          refine wpAnyH_take (i := 0) (v := ?_) rfl (by kernel_rfl) (by kernel_rfl) (by kernel_rfl) (fun _ _ _ h => h) (Or.inl ⟨by rfl, ?_⟩) (by assumption) ?_
          rotate_left
          · (intro Y hSw; (try dsimp only at hSw); obtain ⟨hS1, hS2⟩ := hSw; go_simp; try with_reducible rfl)
          try simp only [Act.put, List.getElem_toArray, List.getElem_cons_zero, List.getElem_cons_succ, List.setIfInBounds_toArray, List.set_cons_zero, List.set_cons_succ]
          refine wpAnyH_take (i := 1) (v := ?_) rfl (by kernel_rfl) (by kernel_rfl) (by kernel_rfl) (fun _ _ _ h => h) (Or.inl ⟨by rfl, ?_⟩) (by assumption) ?_
          rotate_left
          · (intro Y hSw; (try dsimp only at hSw); obtain ⟨hS1, hS2⟩ := hSw; go_simp; try with_reducible rfl)
          try simp only [Act.put, List.getElem_toArray, List.getElem_cons_zero, List.getElem_cons_succ, List.setIfInBounds_toArray, List.set_cons_zero, List.set_cons_succ]
          refine wpAnyH_take (i := 2) (v := ?_) rfl (by kernel_rfl) (by kernel_rfl) (by kernel_rfl) (fun _ _ _ h => h) (Or.inl ⟨by rfl, ?_⟩) (by assumption) ?_
          rotate_left
          · (intro Y hSw; (try dsimp only at hSw); obtain ⟨hS1, hS2⟩ := hSw; go_simp; try with_reducible rfl)
          try simp only [Act.put, List.getElem_toArray, List.getElem_cons_zero, List.getElem_cons_succ, List.setIfInBounds_toArray, List.set_cons_zero, List.set_cons_succ]
          refine wpAnyH_take (i := 3) (v := ?_) rfl (by kernel_rfl) (by kernel_rfl) (by kernel_rfl) (fun _ _ _ h => h) (Or.inl ⟨by rfl, ?_⟩) (by assumption) ?_
          rotate_left
          · (intro Y hSw; (try dsimp only at hSw); obtain ⟨hS1, hS2⟩ := hSw; go_simp; try with_reducible rfl)
          try simp only [Act.put, List.getElem_toArray, List.getElem_cons_zero, List.getElem_cons_succ, List.setIfInBounds_toArray, List.set_cons_zero, List.set_cons_succ]
          refine wpAnyH_take (i := 4) (v := ?_) rfl (by kernel_rfl) (by kernel_rfl) (by kernel_rfl) (fun _ _ _ h => h) (Or.inl ⟨by rfl, ?_⟩) (by assumption) ?_
          rotate_left
          · (intro Y hSw; (try dsimp only at hSw); obtain ⟨hS1, hS2⟩ := hSw; go_simp; try with_reducible rfl)
          try simp only [Act.put, List.getElem_toArray, List.getElem_cons_zero, List.getElem_cons_succ, List.setIfInBounds_toArray, List.set_cons_zero, List.set_cons_succ]
          refine wpAnyH_take (i := 8) (v := ?_) rfl (by kernel_rfl) (by kernel_rfl) (by kernel_rfl) (fun _ _ _ h => h) (Or.inl ⟨by rfl, ?_⟩) (by assumption) ?_
          rotate_left
          · (intro Y hSw; (try dsimp only at hSw); obtain ⟨hS1, hS2⟩ := hSw; go_simp; try with_reducible rfl)
          try simp only [Act.put, List.getElem_toArray, List.getElem_cons_zero, List.getElem_cons_succ, List.setIfInBounds_toArray, List.set_cons_zero, List.set_cons_succ]
          refine wpAnyH_take (i := 9) (v := ?_) rfl (by kernel_rfl) (by kernel_rfl) (by kernel_rfl) (fun _ _ _ h => h) (Or.inl ⟨by rfl, ?_⟩) (by assumption) ?_
          rotate_left
          · (intro Y hSw; (try dsimp only at hSw); obtain ⟨hS1, hS2⟩ := hSw; go_simp; try with_reducible rfl)
          try simp only [Act.put, List.getElem_toArray, List.getElem_cons_zero, List.getElem_cons_succ, List.setIfInBounds_toArray, List.set_cons_zero, List.set_cons_succ]
          refine wpAnyH_take (i := 10) (v := ?_) rfl (by kernel_rfl) (by kernel_rfl) (by kernel_rfl) (fun _ _ _ h => h) (Or.inl ⟨by rfl, ?_⟩) (by assumption) ?_
          rotate_left
          · (intro Y hSw; (try dsimp only at hSw); obtain ⟨hS1, hS2⟩ := hSw; go_simp; try with_reducible rfl)
          try simp only [Act.put, List.getElem_toArray, List.getElem_cons_zero, List.getElem_cons_succ, List.setIfInBounds_toArray, List.set_cons_zero, List.set_cons_succ]
          refine wpAnyH_take (i := 11) (v := ?_) rfl (by kernel_rfl) (by kernel_rfl) (by kernel_rfl) (fun _ _ _ h => h) (Or.inl ⟨by rfl, ?_⟩) (by assumption) ?_
          rotate_left
          · (intro Y hSw; (try dsimp only at hSw); obtain ⟨hS1, hS2⟩ := hSw; go_simp; try with_reducible rfl)
          try simp only [Act.put, List.getElem_toArray, List.getElem_cons_zero, List.getElem_cons_succ, List.setIfInBounds_toArray, List.set_cons_zero, List.set_cons_succ]
          refine wpAnyH_take (i := 12) (v := ?_) rfl (by kernel_rfl) (by kernel_rfl) (by kernel_rfl) (fun _ _ _ h => h) (Or.inl ⟨by rfl, ?_⟩) (by assumption) ?_
          rotate_left
          · (intro Y hSw; (try dsimp only at hSw); obtain ⟨hS1, hS2⟩ := hSw; go_simp; try with_reducible rfl)
          try simp only [Act.put, List.getElem_toArray, List.getElem_cons_zero, List.getElem_cons_succ, List.setIfInBounds_toArray, List.set_cons_zero, List.set_cons_succ]
          refine wpAnyH_ready (rs := [5]) (by kernel_rfl) (by simp) ?_
          refine AllReadyH.cons rfl (fun K hK => ?_) AllReadyH.nil
          go_simp
          refine (on_calls s1 a b (by omega) (by omega) _).mono ?_; rintro e _ ⟨rfl, rfl⟩
          go_wp2_with fail
          refine hK.out _ _ (hHeld) (fun hHeld => ?_)
          clear hK K
          try simp only [Act.put, List.getElem_toArray, List.getElem_cons_zero, List.getElem_cons_succ, List.setIfInBounds_toArray, List.set_cons_zero, List.set_cons_succ]
          refine wpAnyH_take (i := 6) (v := ?_) rfl (by kernel_rfl) (by kernel_rfl) (by kernel_rfl) (fun _ _ _ h => h) (Or.inl ⟨by rfl, ?_⟩) (by assumption) ?_
          rotate_left
          · (intro Y hSw; (try dsimp only at hSw); obtain ⟨hS1, hS2⟩ := hSw; go_simp; try with_reducible rfl)
          try simp only [Act.put, List.getElem_toArray, List.getElem_cons_zero, List.getElem_cons_succ, List.setIfInBounds_toArray, List.set_cons_zero, List.set_cons_succ]
          refine wpAnyH_take (i := 7) (v := ?_) rfl (by kernel_rfl) (by kernel_rfl) (by kernel_rfl) (fun _ _ _ h => h) (Or.inl ⟨by rfl, ?_⟩) (by assumption) ?_
          rotate_left
          · (intro Y hSw; (try dsimp only at hSw); obtain ⟨hS1, hS2⟩ := hSw; go_simp; try with_reducible rfl)
          try simp only [Act.put, List.getElem_toArray, List.getElem_cons_zero, List.getElem_cons_succ, List.setIfInBounds_toArray, List.set_cons_zero, List.set_cons_succ]
          refine wpAnyH_ready (rs := [13]) (by kernel_rfl) (by simp) ?_
          refine AllReadyH.cons rfl (fun K hK => ?_) AllReadyH.nil
          go_simp
          refine (on_calls s2 a b (by omega) (by omega) _).mono ?_; rintro e _ ⟨rfl, rfl⟩
          go_wp2_with fail
          refine hK.out _ _ (hHeld) (fun hHeld => ?_)
          clear hK K
          try simp only [Act.put, List.getElem_toArray, List.getElem_cons_zero, List.getElem_cons_succ, List.setIfInBounds_toArray, List.set_cons_zero, List.set_cons_succ]
          refine wpAnyH_take (i := 14) (v := ?_) rfl (by kernel_rfl) (by kernel_rfl) (by kernel_rfl) (fun _ _ _ h => h) (Or.inl ⟨by rfl, ?_⟩) (by assumption) ?_
          rotate_left
          · (intro Y hSw; (try dsimp only at hSw); obtain ⟨hS1, hS2⟩ := hSw; go_simp; try with_reducible rfl)
          try simp only [Act.put, List.getElem_toArray, List.getElem_cons_zero, List.getElem_cons_succ, List.setIfInBounds_toArray, List.set_cons_zero, List.set_cons_succ]
          refine wpAnyH_take (i := 15) (v := ?_) rfl (by kernel_rfl) (by kernel_rfl) (by kernel_rfl) (fun _ _ _ h => h) (Or.inl ⟨by rfl, ?_⟩) (by assumption) ?_
          rotate_left
          · (intro Y hSw; (try dsimp only at hSw); obtain ⟨hS1, hS2⟩ := hSw; go_simp; try with_reducible rfl)
          try simp only [Act.put, List.getElem_toArray, List.getElem_cons_zero, List.getElem_cons_succ, List.setIfInBounds_toArray, List.set_cons_zero, List.set_cons_succ]
          refine wpAnyH_ready (rs := [16]) (by kernel_rfl) (by simp) ?_
          refine AllReadyH.cons rfl (fun K hK => ?_) AllReadyH.nil
          go_simp
          refine (equal_ok _ _ x1 x2 wr.heap.size wr.heap.size _ hl1 hl2 HR1.out HR2.out (Nat.le_refl _) (Nat.le_refl _)).mono ?_; rintro e w5 ⟨rfl, k5⟩
          rw [HQ.out]
          have kb5 := kr.drew.trans (k5.mono (by exact hz))
          have qq1 : w5.cell? ⟨s1, a * 8 + b, none⟩ = some (.slice sa1 x1.length sc1) := (k5.cell (p := ⟨s1, a * 8 + b, none⟩) (hS1.step kr).lt).trans q1
          have qq2 : w5.cell? ⟨s2, a * 8 + b, none⟩ = some (.slice sa2 x2.length sc2) := (k5.cell (p := ⟨s2, a * 8 + b, none⟩) (hS2.step kr).lt).trans q2
          go_wp2_with fail
          refine hK.out _ _ (⟨qq1, qq2⟩) (fun hHeld => ?_)
          clear hK K
          try simp only [Act.put, List.getElem_toArray, List.getElem_cons_zero, List.getElem_cons_succ, List.setIfInBounds_toArray, List.set_cons_zero, List.set_cons_succ]
          refine wpAnyH_take (i := 17) (v := ?_) rfl (by kernel_rfl) (by kernel_rfl) (by kernel_rfl) (fun _ _ _ h => h) (Or.inl ⟨by rfl, ?_⟩) (by assumption) ?_
          rotate_left
          · (intro Y hSw; (try dsimp only at hSw); obtain ⟨hS1, hS2⟩ := hSw; go_simp; try with_reducible rfl)
          try simp only [Act.put, List.getElem_toArray, List.getElem_cons_zero, List.getElem_cons_succ, List.setIfInBounds_toArray, List.set_cons_zero, List.set_cons_succ]
          refine wpAnyH_done (by kernel_rfl) ?_ _
          clear hHeld q1 q2 qq1 qq2 k5
          cases q with
          | false =>
            have hdf : d = false := by rw [← HD.out]; exact sameB_no (i := a * 8 + b) (by omega) (by rw [HX1.out, HX2.out]; simpa using HQ.out)
            subst hdf
            go_wp2_with fail
            go_ret
            exact ⟨rfl, kb5⟩
          | true =>
            go_wp2_with fail
            refine ⟨⟨b + 1, by omega, by go_num, kb5, fun j hj => ?_⟩, by simp [intOf]; omega⟩
            by_cases e : j = a * 8 + b
            · subst e; rw [HX1.out, HX2.out]; simpa using HQ.out
            · exact HN2.out j (by omega)
        · obtain rfl : b = 8 := by omega
          go_wp2_with fail
          exact ⟨⟨a + 1, by omega, by go_num, kr, fun j hj => HN2.out j (by omega)⟩, by simp [intOf]; omega⟩
    · obtain rfl : a = 4 := by omega
      have hdf : d = true := by rw [← HD.out]; exact sameB_yes (fun i hi => HN.out i (by omega))
      subst hdf
      go_wp2_with fail
      go_ret
      exact ⟨rfl, hr⟩
end Go.Proofs.Ytkilmppmghkigaa
