/-
  Package pinfoldref18: Same. Conditions: shelves of fewer than a million.
-/
import Derived.Test.YtkilmppmghkigaaCaRB
import Derived.Test.YtkilmppmghkigaaCaRG
namespace Go.Proofs.Ytkilmppmghkigaa
open Go.RowKit
attribute [local go_sem] Oper.semAt_some
set_option maxHeartbeats 4000000
set_option maxRecDepth 8000

theorem exec_load32 {o : Oper} {a : Act} {w : World} (x : Operand) (ho : o.op = .load 44 x) (g : Nat) (hx : a.eval x = .pointer (some ⟨g, 0, none⟩)) {cs : Array Value} {t : TypeId} (hB : Blk w g cs t) (hs : cs.size = 32) :
    (execOp a.eval o).run Try.prog w = .ok (.value (.agg cs)) w := by
  unfold execOp
  simp only [ho, hx, Instr.loadAt, Instr.sureAddr, Sem.run_bind, Sem.run_pure, Result.andThen_ok, run_load32 hB hs]
structure TwoS (g1 g2 i : Nat) (u v : Value) (Y : World) : Prop where
  q1 : Y.cell? ⟨g1, i, none⟩ = some u
  q2 : Y.cell? ⟨g2, i, none⟩ = some v
theorem rSame_ok {B : Nat} {w : World} {cs1 cs2 : Array Value} {R1 R2 : Nat → List Int} (hV1 : RefV B w cs1 R1) (hV2 : RefV B w cs2 R2) (hB : B ≤ w.heap.size) (hR1 : ∀ i, (R1 i).length < 1000000) (hR2 : ∀ i, (R2 i).length < 1000000) :
    Calls Try.prog 22 #[.agg cs1, .agg cs2] w fun e w' => e = .returned (.bool (sameB R1 R2 32)) ∧ Below w.heap.size w w' := by
  obtain ⟨d, hd⟩ : ∃ d, sameB R1 R2 32 = d := ⟨_, rfl⟩
  rw [hd]
  have HD := Lib.hid hd
  clear hd
  obtain ⟨w0, hw0⟩ : ∃ w0, (w.alloc (.cells cs1 44)).alloc (.cells cs2 44) = w0 := ⟨_, rfl⟩
  have hb0 : Below w.heap.size w w0 := by rw [← hw0]; exact ((Below.refl _ w).alloc (Nat.le_refl _) _).alloc (by simp) _
  have hA : Blk w0 w.heap.size cs1 44 := by rw [← hw0]; exact (Blk.new w _ _).alloc _
  have hO : Blk w0 (w.heap.size + 1) cs2 44 := by rw [← hw0]; exact Blk.newAt _ _ _ (by simp)
  have HV1 := Lib.hid (hV1.below hb0 hB)
  have HV2 := Lib.hid (hV2.below hb0 hB)
  have HR1 := Lib.hid hR1
  have HR2 := Lib.hid hR2
  have HA := Lib.hid hA
  have HO := Lib.hid hO
  have zb := hb0.size
  clear hV1 hV2 hR1 hR2 hA hO
  go_enter Try.func22, Try.ntmps22
  go_wp2_with fail
  clear hw0
  go_loopw [5] (fun t wr => ∃ k : Nat, k ≤ 4 ∧ t = .int .i64 k ∧ Below w0.heap.size w0 wr ∧ ∀ j, j < k * 8 → R1 j = R2 j) (fun t _ => 4 - (intOf t).toNat)
  case atStart => exact ⟨0, by omega, rfl, Below.refl _ _, fun j hj => by omega⟩
  case round =>
    obtain ⟨k, hk, rfl, hbk, hn⟩ := hrel
    have HN := Lib.hid hn
    clear hn
    obtain ⟨Wa, rfl⟩ : ∃ Wa : World, Wa = wr := ⟨_, rfl⟩
    by_cases hlt : k < 4
    · have k0 : (0 : Int) ≤ k := by omega
      have k1 : (k : Int) < 4 := by omega
      go_wp2_with fail
      go_loopw [6] (fun t wr => ∃ m : Nat, m ≤ 8 ∧ t = .int .i64 m ∧ Below w0.heap.size w0 wr ∧ ∀ j, j < k * 8 + m → R1 j = R2 j) (fun t _ => 8 - (intOf t).toNat)
      case atStart => exact ⟨0, by omega, rfl, hbk, fun j hj => HN.out j (by omega)⟩
      case round =>
        obtain ⟨m, hm, rfl, hbm, hn⟩ := hrel
        have HN2 := Lib.hid hn
        clear hn hbk
        by_cases hlt2 : m < 8
        · have m0 : (0 : Int) ≤ m := by omega
          have m1 : (m : Int) < 8 := by omega
          obtain ⟨a1, c1, g1, r1, _⟩ := HV1.out.row (k * 8 + m) (by omega)
          obtain ⟨a2, c2, g2, r2, _⟩ := HV2.out.row (k * 8 + m) (by omega)
          have q1 := (HA.out.below hbm HA.out.lt).cell _ g1
          have q2 := (HO.out.below hbm HO.out.lt).cell _ g2
          have hl1 := HR1.out (k * 8 + m)
          have hl2 := HR2.out (k * 8 + m)
          obtain ⟨l1, e1⟩ : ∃ l, R1 (k * 8 + m) = l := ⟨_, rfl⟩
          obtain ⟨l2, e2⟩ : ∃ l, R2 (k * 8 + m) = l := ⟨_, rfl⟩
          rw [e1] at r1 q1 hl1
          rw [e2] at r2 q2 hl2
          have r1' := Lib.hid (r1.below hbm (by omega))
          have r2' := Lib.hid (r2.below hbm (by omega))
          have E1 := Lib.hid e1
          have E2 := Lib.hid e2
          have hwz := hbm.size
          clear r1 r2 e1 e2 g1 g2
          go_wp2_with fail
          refine wp_region_held_drew (S := TwoS w.heap.size (w.heap.size + 1) (k * 8 + m) (.slice a1 l1.length c1) (.slice a2 l2.length c2)) (by kernel_rfl) ⟨q1, q2⟩ (fun hHeld => ?_)
          refine wpAnyH_take (i := 0) (v := ?_) rfl (by kernel_rfl) (by kernel_rfl) (by kernel_rfl) (fun _ _ _ h => h) (Or.inl ⟨by rfl, ?_⟩) (by assumption) ?_
          rotate_left
          · (intro Y hSw; (try dsimp only at hSw); obtain ⟨hS1, hS2⟩ := hSw; go_simp; try with_reducible rfl)
          try simp only [Act.put, List.getElem_toArray, List.getElem_cons_zero, List.getElem_cons_succ, List.setIfInBounds_toArray, List.set_cons_zero, List.set_cons_succ]
          refine wpAnyH_take (i := 1) (v := ?_) rfl (by kernel_rfl) (by kernel_rfl) (by kernel_rfl) (fun _ _ _ h => h) (Or.inl ⟨by rfl, ?_⟩) (by assumption) ?_
          rotate_left
          · (intro Y hSw; (try dsimp only at hSw); obtain ⟨hS1, hS2⟩ := hSw; go_simp; try with_reducible rfl)
          try simp only [Act.put, List.getElem_toArray, List.getElem_cons_zero, List.getElem_cons_succ, List.setIfInBounds_toArray, List.set_cons_zero, List.set_cons_succ]
          refine wpAnyH_take (i := 2) (v := ?_) rfl (by kernel_rfl) (by kernel_rfl) (by kernel_rfl) (fun _ _ _ h => h) (Or.inl ⟨by rfl, ?_⟩) (by assumption) ?_
          rotate_left
          · (intro Y hSw; (try dsimp only at hSw); obtain ⟨hS1, hS2⟩ := hSw; go_simp; try with_reducible rfl)
          try simp only [Act.put, List.getElem_toArray, List.getElem_cons_zero, List.getElem_cons_succ, List.setIfInBounds_toArray, List.set_cons_zero, List.set_cons_succ]
          refine wpAnyH_take (i := 3) (v := ?_) rfl (by kernel_rfl) (by kernel_rfl) (by kernel_rfl) (fun _ _ _ h => h) (Or.inl ⟨by rfl, ?_⟩) (by assumption) ?_
          rotate_left
          · (intro Y hSw; (try dsimp only at hSw); obtain ⟨hS1, hS2⟩ := hSw; go_simp; try with_reducible rfl)
          try simp only [Act.put, List.getElem_toArray, List.getElem_cons_zero, List.getElem_cons_succ, List.setIfInBounds_toArray, List.set_cons_zero, List.set_cons_succ]
          refine wpAnyH_take (i := 4) (v := ?_) rfl (by kernel_rfl) (by kernel_rfl) (by kernel_rfl) (fun _ _ _ h => h) (Or.inl ⟨by rfl, ?_⟩) (by assumption) ?_
          rotate_left
          · (intro Y hSw; (try dsimp only at hSw); obtain ⟨hS1, hS2⟩ := hSw; go_simp; try with_reducible rfl)
          try simp only [Act.put, List.getElem_toArray, List.getElem_cons_zero, List.getElem_cons_succ, List.setIfInBounds_toArray, List.set_cons_zero, List.set_cons_succ]
          refine wpAnyH_take (i := 5) (v := ?_) rfl (by kernel_rfl) (by kernel_rfl) (by kernel_rfl) (fun _ _ _ h => h) (Or.inl ⟨by rfl, ?_⟩) (by assumption) ?_
          rotate_left
          · (intro Y hSw; (try dsimp only at hSw); obtain ⟨hS1, hS2⟩ := hSw; go_simp; try with_reducible rfl)
          try simp only [Act.put, List.getElem_toArray, List.getElem_cons_zero, List.getElem_cons_succ, List.setIfInBounds_toArray, List.set_cons_zero, List.set_cons_succ]
          refine wpAnyH_take (i := 6) (v := ?_) rfl (by kernel_rfl) (by kernel_rfl) (by kernel_rfl) (fun _ _ _ h => h) (Or.inl ⟨by rfl, ?_⟩) (by assumption) ?_
          rotate_left
          · (intro Y hSw; (try dsimp only at hSw); obtain ⟨hS1, hS2⟩ := hSw; go_simp; try with_reducible rfl)
          try simp only [Act.put, List.getElem_toArray, List.getElem_cons_zero, List.getElem_cons_succ, List.setIfInBounds_toArray, List.set_cons_zero, List.set_cons_succ]
          refine wpAnyH_take (i := 7) (v := ?_) rfl (by kernel_rfl) (by kernel_rfl) (by kernel_rfl) (fun _ _ _ h => h) (Or.inl ⟨by rfl, ?_⟩) (by assumption) ?_
          rotate_left
          · (intro Y hSw; (try dsimp only at hSw); obtain ⟨hS1, hS2⟩ := hSw; go_simp; try with_reducible rfl)
          try simp only [Act.put, List.getElem_toArray, List.getElem_cons_zero, List.getElem_cons_succ, List.setIfInBounds_toArray, List.set_cons_zero, List.set_cons_succ]
          refine wpAnyH_take (i := 8) (v := ?_) rfl (by kernel_rfl) (by kernel_rfl) (by kernel_rfl) (fun _ _ _ h => h) (Or.inl ⟨by rfl, ?_⟩) (by assumption) ?_
          rotate_left
          · (intro Y hSw; (try dsimp only at hSw); obtain ⟨hS1, hS2⟩ := hSw; go_simp; try with_reducible rfl)
          try simp only [Act.put, List.getElem_toArray, List.getElem_cons_zero, List.getElem_cons_succ, List.setIfInBounds_toArray, List.set_cons_zero, List.set_cons_succ]
          refine wpAnyH_take (i := 9) (v := ?_) rfl (by kernel_rfl) (by kernel_rfl) (by kernel_rfl) (fun _ _ _ h => h) (Or.inl ⟨by rfl, ?_⟩) (by assumption) ?_
          rotate_left
          · (intro Y hSw; (try dsimp only at hSw); obtain ⟨hS1, hS2⟩ := hSw; go_simp; try with_reducible rfl)
          try simp only [Act.put, List.getElem_toArray, List.getElem_cons_zero, List.getElem_cons_succ, List.setIfInBounds_toArray, List.set_cons_zero, List.set_cons_succ]
          refine wpAnyH_ready (rs := [10]) (by kernel_rfl) (by simp) ?_
          refine AllReadyH.cons rfl (fun K hK => ?_) AllReadyH.nil
          go_simp
          refine (ints_ok _ _ l1 l2 B B _ hl1 hl2 (r1'.out.below (Below.refl _ wr).drew (by omega)) (r2'.out.below (Below.refl _ wr).drew (by omega)) (by show B ≤ wr.heap.size; omega) (by show B ≤ wr.heap.size; omega)).mono ?_
          rintro e W2 ⟨rfl, kW⟩
          have q1' : W2.cell? ⟨w.heap.size, k * 8 + m, none⟩ = some (.slice a1 l1.length c1) := (kW.cell (p := ⟨w.heap.size, k * 8 + m, none⟩) (by have := HA.out.lt; show w.heap.size < wr.heap.size; omega)).trans q1
          have q2' : W2.cell? ⟨w.heap.size + 1, k * 8 + m, none⟩ = some (.slice a2 l2.length c2) := (kW.cell (p := ⟨w.heap.size + 1, k * 8 + m, none⟩) (by have := HO.out.lt; show w.heap.size + 1 < wr.heap.size; omega)).trans q2
          have hb2 := (hbm.drew).trans (kW.mono hbm.size)
          clear q1 q2
          go_simp
          refine hK.out _ _ (⟨q1', q2'⟩) (fun hHeld => ?_)
          clear hK K
          try simp only [Act.put, List.getElem_toArray, List.getElem_cons_zero, List.getElem_cons_succ, List.setIfInBounds_toArray, List.set_cons_zero, List.set_cons_succ]
          refine wpAnyH_take (i := 11) (v := ?_) rfl (by kernel_rfl) (by kernel_rfl) (by kernel_rfl) (fun _ _ _ h => h) (Or.inl ⟨by rfl, ?_⟩) (by assumption) ?_
          rotate_left
          · (intro Y hSw; (try dsimp only at hSw); obtain ⟨hS1, hS2⟩ := hSw; go_simp; try with_reducible rfl)
          try simp only [Act.put, List.getElem_toArray, List.getElem_cons_zero, List.getElem_cons_succ, List.setIfInBounds_toArray, List.set_cons_zero, List.set_cons_succ]
          refine wpAnyH_done (by kernel_rfl) ?_ _
          by_cases hx : l1 = l2
          · have hx' : decide (l1 = l2) = true := decide_eq_true hx
            have HX := Lib.hid hx
            clear hx
            rw [hx']
            go_wp2_with fail
            refine ⟨⟨m + 1, by omega, by go_num, hb2, fun j hj => ?_⟩, by simp [intOf]; omega⟩
            by_cases e : j = k * 8 + m
            · subst e; rw [E1.out, E2.out]; exact HX.out
            · exact HN2.out j (by omega)
          · have hx' : decide (l1 = l2) = false := decide_eq_false hx
            have hdf : d = false := by rw [← HD.out]; exact sameB_no (i := k * 8 + m) (by omega) (by rw [E1.out, E2.out]; exact hx)
            subst hdf
            clear hx
            rw [hx']
            go_wp2_with fail
            go_ret
            exact ⟨rfl, hb0.trans (hb2.mono hb0.size)⟩
        · obtain rfl : m = 8 := by omega
          go_wp2_with fail
          exact ⟨⟨k + 1, by omega, by go_num, hbm, fun j hj => HN2.out j (by omega)⟩, by simp [intOf]; omega⟩
    · obtain rfl : k = 4 := by omega
      have hdf : d = true := by rw [← HD.out]; exact sameB_yes (fun i hi => HN.out i (by omega))
      subst hdf
      go_wp2_with fail
      go_ret
      exact ⟨rfl, hb0.trans (hbk.mono hb0.size)⟩
end Go.Proofs.Ytkilmppmghkigaa
