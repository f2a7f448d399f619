/-
  The iterator over a key's round numbers, and what ranges over it: Mix, Undo. No condition but the bounds of the arguments' kinds.
-/
import Derived.Test.YtackenlfnecanaaMixA
namespace Go.Proofs.Ytackenlfnecanaa
open Go.RowKit
attribute [local go_sem] Oper.semAt_some
set_option maxHeartbeats 400000

def numsI (key : Int) (back : Bool) : List Int := (List.range 8).map fun (n : Nat) => roundI key (if back = true then 7 - (n : Int) else n)
theorem numsI_len (key : Int) (back : Bool) : (numsI key back).length = 8 := by simp [numsI]
theorem numsI_get (key : Int) (back : Bool) (k : Nat) (h : k < (numsI key back).length) : (numsI key back)[k] = roundI key (if back = true then 7 - (k : Int) else k) := by simp [numsI]

theorem numbers_iter (key : Int) (back : Bool) (bb bl : Nat) :
    IterK Try.prog 58 #[.pointer (some ⟨bb, 0, none⟩), .pointer (some ⟨bl, 0, none⟩)] (fun k : Int => #[.int .u32 k]) (numsI key back)
      (fun W => W.cell? ⟨bb, 0, none⟩ = some (.bool back) ∧ W.cell? ⟨bl, 0, none⟩ = some (.int .u64 key)) := by
  intro l J Jx W hJ hJx hA hY h0
  refine calls_in Try.func58 rfl ?_; simp only [Try.ntmps58, List.size_toArray, List.length_cons, List.length_nil, Nat.reduceAdd, Nat.reduceSub, Array.replicate_succ, Array.replicate_zero, List.push_toArray, List.append_toArray, List.nil_append, List.cons_append]
  gi_wp2
  gi_loopw [5] (fun i wr => ∃ k : Nat, k ≤ 8 ∧ i = .int .i64 k ∧ J ((numsI key back).take k) wr ∧ W.heap.size ≤ wr.heap.size) (fun i _ => 8 - (intOf i).toNat)
  case atStart => exact ⟨0, by omega, rfl, by simpa using h0, Nat.le_refl _⟩
  case round =>
    obtain ⟨k, hk, rfl, hJk, hsz⟩ := hrel
    obtain ⟨hc1, hc2⟩ := hA _ _ hJk
    by_cases hlt : k < 8
    · have hl : k < (numsI key back).length := by rw [numsI_len]; exact hlt
      have hsp := Lib.hid (split_at _ k hl)
      have htk := Lib.hid (take_next _ k hl)
      cases back
      · gi_wp2_with fail
        refine by_calls (round_calls _ _ (by omega) (by omega) _) ?_; rintro e w1 ⟨rfl, hb⟩
        have hJ1 := hJ _ _ _ hJk (Keeps.of_below hb hsz (Nat.le_refl _))
        have hz1 := hb.size
        obtain ⟨fn, tmps, assign, body, hy, hR⟩ := hY _ _ _ w1 hsp.out hJ1 (by omega)
        rw [numsI_get] at hy
        simp only [Bool.false_eq_true, if_true, if_false] at hy
        clear hY
        gi_wp2_with fail
        refine (hR _).mono ?_; rintro e W3 (⟨rfl, hJ3, hs3⟩ | ⟨rfl, hJx3, hs3⟩)
        · gi_wp2
          go_roundw
          case rel => exact ⟨k + 1, by omega, by go_num, by rw [htk.out]; exact hJ3, by omega⟩
          case measure => simp [intOf]; omega
        · gi_wp2
          refine bodyPost_ret (results_none rfl _ _ _) rfl ?_
          exact ⟨⟨_, rfl⟩, .inr hJx3⟩
      · gi_wp2_with fail
        refine by_calls (round_calls _ _ (by omega) (by omega) _) ?_; rintro e w1 ⟨rfl, hb⟩
        have hJ1 := hJ _ _ _ hJk (Keeps.of_below hb hsz (Nat.le_refl _))
        have hz1 := hb.size
        obtain ⟨fn, tmps, assign, body, hy, hR⟩ := hY _ _ _ w1 hsp.out hJ1 (by omega)
        rw [numsI_get] at hy
        simp only [Bool.false_eq_true, if_true, if_false] at hy
        clear hY
        gi_wp2_with fail
        refine (hR _).mono ?_; rintro e W3 (⟨rfl, hJ3, hs3⟩ | ⟨rfl, hJx3, hs3⟩)
        · gi_wp2
          go_roundw
          case rel => exact ⟨k + 1, by omega, by go_num, by rw [htk.out]; exact hJ3, by omega⟩
          case measure => simp [intOf]; omega
        · gi_wp2
          refine bodyPost_ret (results_none rfl _ _ _) rfl ?_
          exact ⟨⟨_, rfl⟩, .inr hJx3⟩
    · obtain rfl : k = 8 := by omega
      gi_wp2
      go_end0
      exact ⟨⟨_, rfl⟩, .inl (by rw [List.take_of_length_le (by rw [numsI_len]; omega)] at hJk; exact hJk)⟩
end Go.Proofs.Ytackenlfnecanaa
