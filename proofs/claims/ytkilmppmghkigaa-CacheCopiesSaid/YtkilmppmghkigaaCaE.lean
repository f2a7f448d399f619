/-
  Package cache: Has. Conditions: rows of fewer than a million.
-/
import Derived.Test.YtkilmppmghkigaaCaD
namespace Go.Proofs.Ytkilmppmghkigaa
open Go.RowKit
attribute [local go_sem] Oper.semAt_some
set_option maxHeartbeats 4000000
set_option maxRecDepth 4000

def addrOf : Value → Option Addr
  | .slice a _ _ => a
  | _ => none
def capOf : Value → Nat
  | .slice _ _ c => c
  | _ => 0
def shCells (A : Nat → Option Addr) (C N : Nat → Nat) : List Value := ((List.range 32).map fun j => .slice (A j) (N j) (C j)) ++ [.bool true]
theorem ShAt.forms {W : World} {s : Nat} {L : Nat → List Int} (h : ShAt W s L) : ∃ A C, Blk W s (shCells A C fun j => (L j).length).toArray 63 ∧ ∀ i, i < 32 → RowAt W.heap.size W (.slice (A i) (L i).length (C i)) (L i).length (intVals .i64 (L i)) := by
  obtain ⟨vs, h1, h2, h3⟩ := h
  have hv : ∀ j (hj : j < vs.length), vs[j] = .slice (addrOf (vs.getD j undef)) (L j).length (capOf (vs.getD j undef)) := fun j hj => by
    obtain ⟨a, c, e, _⟩ := h3 j hj
    simp only [List.getD, List.getElem?_eq_getElem hj, Option.getD_some]
    rw [e]; rfl
  refine ⟨fun j => addrOf (vs.getD j undef), fun j => capOf (vs.getD j undef), ?_, fun i hi => ?_⟩
  · have : vs = (List.range 32).map fun j => .slice (addrOf (vs.getD j undef)) (L j).length (capOf (vs.getD j undef)) := by
      refine List.ext_getElem (by simp [h1]) fun j hj1 hj2 => ?_
      rw [List.getElem_map, List.getElem_range]
      exact hv j hj1
    unfold shCells
    rw [← this]
    exact h2
  · have := h3 i (by omega)
    rw [hv i (by omega)] at this
    exact this
theorem shCells_get (A : Nat → Option Addr) (C N : Nat → Nat) (j : Nat) (h : j < 32) : (shCells A C N)[j]? = some (.slice (A j) (N j) (C j)) := by
  unfold shCells
  rw [List.getElem?_append_left (by simpa using h)]
  simp [h]
def arrV (A : Nat → Option Addr) (C N : Nat → Nat) (k : Nat) : Array Value :=
  #[.slice (A (k * 8)) (N (k * 8)) (C (k * 8)), .slice (A (k * 8 + 1)) (N (k * 8 + 1)) (C (k * 8 + 1)), .slice (A (k * 8 + 2)) (N (k * 8 + 2)) (C (k * 8 + 2)), .slice (A (k * 8 + 3)) (N (k * 8 + 3)) (C (k * 8 + 3)),
    .slice (A (k * 8 + 4)) (N (k * 8 + 4)) (C (k * 8 + 4)), .slice (A (k * 8 + 5)) (N (k * 8 + 5)) (C (k * 8 + 5)), .slice (A (k * 8 + 6)) (N (k * 8 + 6)) (C (k * 8 + 6)), .slice (A (k * 8 + 7)) (N (k * 8 + 7)) (C (k * 8 + 7))]
theorem all_calls (a : Option Addr) (n c : Nat) (w : World) : Calls Try.prog 50 #[.slice a n c] w fun e w' => e = .returned (.func (.func 59) #[] #[.pointer (some ⟨w.heap.size, 0, none⟩)]) ∧ w' = w.alloc (.cells #[.slice a n c] 93) := by
  go_enter Try.func50, Try.ntmps50
  go_wp2
  go_ret
  exact ⟨rfl, rfl⟩
theorem all_iter (p s : Nat) (A : Nat → Option Addr) (C N : Nat → Nat) :
    IterK Try.prog 59 #[.pointer (some ⟨p, 0, none⟩)] (fun k : Nat => #[.int .i64 k, .agg (arrV A C N k)]) (List.range 4)
      (fun W => W.cell? ⟨p, 0, none⟩ = some (.slice (some ⟨s, 0, none⟩) 4 4) ∧ Blk W s (shCells A C N).toArray 63) := by
  intro l J Jx W hJ hJx hA hY h0
  obtain ⟨hc0, hb0⟩ := hA _ _ h0
  refine calls_in Try.func59 rfl ?_; simp only [Try.ntmps59, List.size_toArray, List.length_cons, List.length_nil, Nat.reduceAdd, Nat.reduceSub, Array.replicate_succ, Array.replicate_zero, List.push_toArray, List.append_toArray, List.nil_append, List.cons_append]
  gi_wp2_with fail
  gi_loopw [7] (fun i wr => ∃ k : Nat, k ≤ 4 ∧ i = .int .i64 k ∧ J (List.range k) wr ∧ W.heap.size ≤ wr.heap.size) (fun i _ => 4 - (intOf i).toNat)
  case atStart => exact ⟨0, by omega, rfl, h0, Nat.le_refl _⟩
  case round =>
    clear hc0 hb0
    obtain ⟨k, hk, rfl, hJk, hsz⟩ := hrel
    obtain ⟨hc1, hb1⟩ := hA _ _ hJk
    by_cases hlt : k < 4
    · have i0 : (0 : Int) ≤ k := by omega
      have i1 : (k : Int) < 4 := by omega
      have q : ∀ j, j < 8 → wr.cell? ⟨s, k * 8 + j, none⟩ = some (.slice (A (k * 8 + j)) (N (k * 8 + j)) (C (k * 8 + j))) := fun j hj => hb1.cell (k * 8 + j) (by simpa using shCells_get A C N (k * 8 + j) (by omega))
      have q0 : wr.cell? ⟨s, k * 8, none⟩ = some (.slice (A (k * 8)) (N (k * 8)) (C (k * 8))) := q 0 (by omega)
      have q1 := q 1 (by omega)
      have q2 := q 2 (by omega)
      have q3 := q 3 (by omega)
      have q4 := q 4 (by omega)
      have q5 := q 5 (by omega)
      have q6 := q 6 (by omega)
      have q7 := q 7 (by omega)
      have hJ1 := hJ _ _ _ hJk ((Keeps.refl _ wr).alloc hsz (.cells (arrV A C N k) 42))
      have hsp : List.range 4 = List.range k ++ k :: (List.range 4).drop (k + 1) := by
        have : ∀ k, k < 4 → List.range 4 = List.range k ++ k :: (List.range 4).drop (k + 1) := by decide
        exact this k hlt
      obtain ⟨fn, tmps, assign, body, hy, hR⟩ := hY _ _ _ _ hsp hJ1 (by simp; omega)
      have hss : List.range (k + 1) = List.range k ++ [k] := List.range_succ
      clear q hY hsp
      unfold arrV at hy hR
      gi_wp2_with fail
      refine (hR _).mono ?_; rintro e W3 (⟨rfl, hJ3, hs3⟩ | ⟨rfl, hJx3, hs3⟩)
      · gi_wp2
        go_roundw
        case rel => exact ⟨k + 1, by omega, by go_num, by rw [hss]; exact hJ3, by simp at hs3; omega⟩
        case measure => simp [intOf]; omega
      · gi_wp2
        refine bodyPost_ret (results_none rfl _ _ _) rfl ?_
        exact ⟨⟨_, rfl⟩, .inr hJx3⟩
    · obtain rfl : k = 4 := by omega
      gi_wp2
      go_end0
      exact ⟨⟨_, rfl⟩, .inl hJk⟩
end Go.Proofs.Ytkilmppmghkigaa
