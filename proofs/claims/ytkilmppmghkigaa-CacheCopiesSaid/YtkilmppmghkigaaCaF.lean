/-
  Package cache: Has. Conditions: rows of fewer than a million.
-/
import Derived.Test.YtkilmppmghkigaaCaE
import Derived.Deep.RegionHeld
namespace Go.Proofs.Ytkilmppmghkigaa
open Go.RowKit
attribute [local go_sem] Oper.semAt_some
set_option maxHeartbeats 4000000
set_option maxRecDepth 4000

theorem arrV_get (A : Nat → Option Addr) (C N : Nat → Nat) (k c : Nat) (h : c < 8) : (arrV A C N k)[c]? = some (.slice (A (k * 8 + c)) (N (k * 8 + c)) (C (k * 8 + c))) := by
  match c, h with
  | 0, _ => rfl
  | 1, _ => rfl
  | 2, _ => rfl
  | 3, _ => rfl
  | 4, _ => rfl
  | 5, _ => rfl
  | 6, _ => rfl
  | 7, _ => rfl
structure HasS (pc px pb c : Nat) (x : Int) (v : Value) (Y : World) : Prop where
  cc : Y.cell? ⟨pc, 0, none⟩ = some (.int .i64 c)
  cx : Y.cell? ⟨px, 0, none⟩ = some (.int .i64 x)
  cb : Y.cell? ⟨pb, c, none⟩ = some v
theorem has1_calls {w : World} {A : Nat → Option Addr} {C : Nat → Nat} {L : Nat → List Int} (hL : ∀ i, (L i).length < 1000000) (hr : ∀ i, i < 32 → RowAt w.heap.size w (.slice (A i) (L i).length (C i)) (L i).length (intVals .i64 (L i))) (k : Nat) (hk : k < 4) (pc px c : Nat) (x : Int) (h8 : c < 8)
    (hc : w.cell? ⟨pc, 0, none⟩ = some (.int .i64 c)) (hx : w.cell? ⟨px, 0, none⟩ = some (.int .i64 x)) :
    Calls Try.prog 51 #[.agg (arrV A C (fun j => (L j).length) k), .pointer (some ⟨pc, 0, none⟩), .pointer (some ⟨px, 0, none⟩)] w fun e w' => e = .returned (.bool (decide (x ∈ L (k * 8 + c)))) ∧ Below w.heap.size w w' := by
  obtain ⟨w0, hw0⟩ : ∃ w0, w.alloc (.cells (arrV A C (fun j => (L j).length) k) 42) = w0 := ⟨_, rfl⟩
  have hb0 : Below w.heap.size w w0 := by rw [← hw0]; exact (Below.refl _ w).alloc (Nat.le_refl _) _
  have hB : Blk w0 w.heap.size (arrV A C (fun j => (L j).length) k) 42 := by rw [← hw0]; exact Blk.new w _ _
  have hcell := hB.cell c (arrV_get A C (fun j => (L j).length) k c h8)
  have hc0 := (hb0.cell (p := ⟨pc, 0, none⟩) (World.block_lt_of_cell? w _ hc)).trans hc
  have hx0 := (hb0.cell (p := ⟨px, 0, none⟩) (World.block_lt_of_cell? w _ hx)).trans hx
  have HR := Lib.hid ((hr (k * 8 + c) (by omega)).below hb0 (Nat.le_refl _))
  have HL := Lib.hid (hL (k * 8 + c))
  have i0 : (0 : Int) ≤ c := by omega
  have i1 : (c : Int) < 8 := by omega
  have hS : HasS pc px w.heap.size c x (.slice (A (k * 8 + c)) (L (k * 8 + c)).length (C (k * 8 + c))) w0.drew := ⟨hc0, hx0, hcell⟩
  clear hr hL hcell hc0 hx0 hB
  unfold arrV at hw0 ⊢
  go_enter Try.func51, Try.ntmps51
  go_wp2_with fail
  clear hw0
  refine wp_region_held_drew (S := HasS pc px w.heap.size c x (.slice (A (k * 8 + c)) (L (k * 8 + c)).length (C (k * 8 + c)))) (by kernel_rfl) hS (fun hHeld => ?_)
  refine wpAnyH_take (i := 0) (v := ?_) rfl (by kernel_rfl) (by kernel_rfl) (by kernel_rfl) (fun _ _ _ h => h) (Or.inl ⟨by rfl, ?_⟩) (by assumption) ?_
  rotate_left
  · (intro Y hSw; (try dsimp only at hSw); obtain ⟨hS0, hS1, hS2⟩ := hSw; go_simp; try with_reducible rfl)
  try simp only [Act.put, List.getElem_toArray, List.getElem_cons_zero, List.getElem_cons_succ, List.setIfInBounds_toArray, List.set_cons_zero, List.set_cons_succ]
  refine wpAnyH_take (i := 1) (v := ?_) rfl (by kernel_rfl) (by kernel_rfl) (by kernel_rfl) (fun _ _ _ h => h) (Or.inl ⟨by rfl, ?_⟩) (by assumption) ?_
  rotate_left
  · (intro Y hSw; (try dsimp only at hSw); obtain ⟨hS0, hS1, hS2⟩ := hSw; go_simp; try with_reducible rfl)
  try simp only [Act.put, List.getElem_toArray, List.getElem_cons_zero, List.getElem_cons_succ, List.setIfInBounds_toArray, List.set_cons_zero, List.set_cons_succ]
  refine wpAnyH_take (i := 2) (v := ?_) rfl (by kernel_rfl) (by kernel_rfl) (by kernel_rfl) (fun _ _ _ h => h) (Or.inl ⟨by rfl, ?_⟩) (by assumption) ?_
  rotate_left
  · (intro Y hSw; (try dsimp only at hSw); obtain ⟨hS0, hS1, hS2⟩ := hSw; go_simp; try with_reducible rfl)
  try simp only [Act.put, List.getElem_toArray, List.getElem_cons_zero, List.getElem_cons_succ, List.setIfInBounds_toArray, List.set_cons_zero, List.set_cons_succ]
  refine wpAnyH_take (i := 3) (v := ?_) rfl (by kernel_rfl) (by kernel_rfl) (by kernel_rfl) (fun _ _ _ h => h) (Or.inl ⟨by rfl, ?_⟩) (by assumption) ?_
  rotate_left
  · (intro Y hSw; (try dsimp only at hSw); obtain ⟨hS0, hS1, hS2⟩ := hSw; go_simp; try with_reducible rfl)
  try simp only [Act.put, List.getElem_toArray, List.getElem_cons_zero, List.getElem_cons_succ, List.setIfInBounds_toArray, List.set_cons_zero, List.set_cons_succ]
  refine wpAnyH_ready (rs := [4]) (by kernel_rfl) (by simp) ?_
  refine AllReadyH.cons rfl (fun K hK => ?_) AllReadyH.nil
  go_simp
  refine (contains_ok _ _ x w.heap.size w0.drew HL.out HR.out).mono ?_; rintro e _ ⟨rfl, rfl⟩
  go_wp2_with fail
  refine hK.out _ _ (hS) (fun hHeld => ?_)
  clear hK K
  try simp only [Act.put, List.getElem_toArray, List.getElem_cons_zero, List.getElem_cons_succ, List.setIfInBounds_toArray, List.set_cons_zero, List.set_cons_succ]
  refine wpAnyH_take (i := 5) (v := ?_) rfl (by kernel_rfl) (by kernel_rfl) (by kernel_rfl) (fun _ _ _ h => h) (Or.inl ⟨by rfl, ?_⟩) (by assumption) ?_
  rotate_left
  · (intro Y hSw; (try dsimp only at hSw); obtain ⟨hS0, hS1, hS2⟩ := hSw; go_simp; try with_reducible rfl)
  try simp only [Act.put, List.getElem_toArray, List.getElem_cons_zero, List.getElem_cons_succ, List.setIfInBounds_toArray, List.set_cons_zero, List.set_cons_succ]
  refine wpAnyH_done (by kernel_rfl) ?_ _
  go_wp2_with fail
  go_ret
  exact ⟨rfl, hb0.drew⟩
end Go.Proofs.Ytkilmppmghkigaa
