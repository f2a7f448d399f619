/-
  Package frame: the frames that are nobody's, one by one. Conditions: a pool whose books are in order.
-/
import Derived.Test.YtlpchcdalfkfcaaGreatBFrF
namespace Go.Proofs.YtlpchcdalfkfcaaGreat
open Go.RowKit
attribute [local go_sem] Oper.semAt_some
set_option maxHeartbeats 2000000
set_option maxRecDepth 4000

def inF (F : List Fr) (k : Int) : Bool := F.any fun x => x.1 == k
def freeK (F : List Fr) (k : Nat) : List Int := ((List.range k).map fun (n : Nat) => (n : Int)).filter fun k => !inF F k
def freeI (many : Int) (F : List Fr) : List Int := freeK F many.toNat
theorem freeK_succ (F : List Fr) (k : Nat) : freeK F (k + 1) = freeK F k ++ (if inF F k = true then [] else [(k : Int)]) := by
  unfold freeK
  rw [List.range_succ, List.map_append, List.filter_append]
  congr 1
  cases h : inF F k <;> simp [h]
theorem freeK_le (F : List Fr) (k : Nat) : ∀ d : Nat, ∃ suf, freeK F (k + d) = freeK F k ++ suf
  | 0 => ⟨[], by simp⟩
  | d + 1 => by
    obtain ⟨suf, h⟩ := freeK_le F k d
    exact ⟨suf ++ _, by rw [show k + (d + 1) = k + d + 1 by omega, freeK_succ, h, List.append_assoc]⟩
theorem free_split (many : Int) (F : List Fr) (k : Nat) (hk : (k : Int) < many) (hin : inF F k = false) : ∃ suf, freeI many F = freeK F k ++ (k : Int) :: suf := by
  obtain ⟨suf, h⟩ := freeK_le F (k + 1) (many.toNat - (k + 1))
  rw [show k + 1 + (many.toNat - (k + 1)) = many.toNat by omega, freeK_succ, hin] at h
  exact ⟨suf, by unfold freeI; rw [h]; simp⟩
theorem hasA_encF (F : List Fr) (k : Int) : hasA (encF F) k = inF F k := by simp [hasA, encF, inF, Function.comp_def]
def zeros256 : List Int := List.replicate 256 0
theorem zero_taken (w : World) : (zeroValue 214).run Tryz.prog w = .ok (.agg (takenA 0 zeros256)) w := by kernel_rfl
/-- What is looked up, be it there or not. -/
theorem look_taken (F : List Fr) (h256 : ∀ x ∈ F, x.2.2.length = 256) (k : Int) : ∃ o bs, (getA (encF F) k).getD (.agg (takenA 0 zeros256)) = .agg (takenA o bs) ∧ bs.length = 256 := by
  unfold getA
  cases h : (encF F).find? fun p => p.1 == k with
  | none => exact ⟨0, zeros256, rfl, rfl⟩
  | some q =>
    have hq := List.mem_of_find?_eq_some h
    obtain ⟨x, hx, rfl⟩ := List.mem_map.1 hq
    exact ⟨x.2.1, x.2.2, rfl, h256 x hx⟩
theorem free_calls (b : Nat) (w : World) : Calls Tryz.prog 167 #[.pointer (some ⟨b, 0, none⟩)] w fun e w' => e = .returned (.func (.func 196) #[] #[.pointer (some ⟨w.heap.size, 0, none⟩)]) ∧ w' = w.alloc (.cells #[.pointer (some ⟨b, 0, none⟩)] 137) := by
  go_enter Tryz.func167, Tryz.ntmps167
  go_wp2
  go_ret
  exact ⟨rfl, rfl⟩
theorem free_iter (bs b bf br : Nat) (many : Int) (F : List Fr) (R : List (Int × Int)) (hs : Sound many F R) :
    IterK Tryz.prog 196 #[.pointer (some ⟨bs, 0, none⟩)] (fun k : Int => #[.int .i64 k]) (freeI many F)
      (fun W => W.cell? ⟨bs, 0, none⟩ = some (.pointer (some ⟨b, 0, none⟩)) ∧ PoolAt W b bf br many F R) := by
  intro l J Jx W hJ hJx hA hY h0
  obtain ⟨hc0, hp0⟩ := hA _ _ h0
  obtain ⟨c0, c1, c2⟩ := hp0.cells
  have hm1 := hs.m1
  have hm0 := hs.m0
  refine calls_in Tryz.func196 rfl ?_; simp only [Tryz.ntmps196, List.size_toArray, List.length_cons, List.length_nil, Nat.reduceAdd, Nat.reduceSub, Array.replicate_succ, Array.replicate_zero, List.push_toArray, List.append_toArray, List.nil_append, List.cons_append]
  gi_wp2
  gi_loopw [10] (fun i wr => ∃ k : Nat, (k : Int) ≤ many ∧ i = .int .i64 k ∧ J (freeK F k) wr ∧ W.heap.size ≤ wr.heap.size) (fun i _ => many.toNat - (intOf i).toNat)
  case atStart => exact ⟨0, by omega, rfl, h0, Nat.le_refl _⟩
  case round =>
    clear hc0 hp0 c0 c1 c2
    obtain ⟨k, hk, rfl, hJk, hsz⟩ := hrel
    obtain ⟨hc1, hp1⟩ := hA _ _ hJk
    obtain ⟨c0, c1, c2⟩ := hp1.cells
    by_cases hlt : (k : Int) < many
    · have i0 : (0 : Int) ≤ k := by omega
      obtain ⟨o9, bs9, hcs, h25⟩ := look_taken F hs.b256 k
      have hcz := takenA_size o9 bs9 h25
      have hlk := (hp1.fr.lookup (P := Tryz.prog) Tryz.underlying184 Tryz.underlying3 (zero_taken wr) k).2
      rw [hcs, hasA_encF] at hlk
      have hfill := fill_taken wr o9 bs9 h25
      have hJ1 := hJ _ _ _ hJk ((Keeps.refl _ wr).alloc hsz (.cells (takenA o9 bs9) 214))
      cases hin : inF F k
      · rw [hin] at hlk
        obtain ⟨suf, hsp⟩ := free_split many F k hlt hin
        have hss : freeK F (k + 1) = freeK F k ++ [(k : Int)] := by rw [freeK_succ, hin]; simp
        obtain ⟨fn, tmps, assign, body, hy, hR⟩ := hY _ _ _ _ hsp hJ1 (by simp; omega)
        clear hY
        gi_wp2_with fail
        refine (hR _).mono ?_; rintro e W3 (⟨rfl, hJ3, hs3⟩ | ⟨rfl, hJx3, hs3⟩)
        · gi_wp2
          go_roundw
          case rel => exact ⟨k + 1, by omega, by go_num, by rw [hss]; exact hJ3, by simp at hs3; omega⟩
          case measure => simp [intOf]; omega
        · gi_wp2
          refine bodyPost_ret (results_none rfl _ _ _) rfl ?_
          exact ⟨⟨_, rfl⟩, .inr hJx3⟩
      · rw [hin] at hlk
        have hss : freeK F (k + 1) = freeK F k := by rw [freeK_succ, hin]; simp
        gi_wp2_with fail
        exact ⟨⟨k + 1, by omega, by go_num, by rw [hss]; exact hJ1, by simp; omega⟩, by simp [intOf]; omega⟩
    · obtain rfl : (k : Int) = many := by omega
      gi_wp2
      go_end0
      exact ⟨⟨_, rfl⟩, .inl hJk⟩
end Go.Proofs.YtlpchcdalfkfcaaGreat
