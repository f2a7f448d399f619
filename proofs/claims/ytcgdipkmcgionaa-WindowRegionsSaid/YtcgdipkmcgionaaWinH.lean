/-
  Package window: the places, one by one.
-/
import Derived.Test.YtcgdipkmcgionaaWinP
namespace Go.Proofs.Ytcgdipkmcgionaa
open Go.RowKit
attribute [local go_sem] Oper.semAt_some
set_option maxHeartbeats 1000000

def slotsI : List Int := [0, 1, 2, 3]
theorem slotsI_get (k : Nat) (h : k < slotsI.length) : slotsI[k] = (k : Int) := by
  have h' : k < 4 := h
  match k, h' with
  | 0, _ => rfl
  | 1, _ => rfl
  | 2, _ => rfl
  | 3, _ => rfl
theorem places_calls (w : World) : Calls Try.prog 29 #[] w fun e w' => e = .returned (.func (.func 36) #[] #[]) ∧ w = w' := by
  go_enter Try.func29, Try.ntmps29
  go_wp2
  go_ret
  exact ⟨rfl, rfl⟩
theorem places_iter : IterK Try.prog 36 #[] (fun s : Int => #[.agg #[.int .i64 s]]) slotsI (fun _ => True) := by
  intro L J Jx W hJ hJx hA hY h0
  refine calls_in Try.func36 rfl ?_; simp only [Try.ntmps36, List.size_toArray, List.length_cons, List.length_nil, Nat.reduceAdd, Nat.reduceSub, Array.replicate_succ, Array.replicate_zero, List.push_toArray, List.append_toArray, List.nil_append, List.cons_append]
  gi_wp2
  gi_loopw [3] (fun i wr => ∃ k : Nat, k ≤ 4 ∧ i = .int .i64 k ∧ J (slotsI.take k) wr ∧ W.heap.size ≤ wr.heap.size) (fun i _ => 4 - (intOf i).toNat)
  case atStart => exact ⟨0, by omega, rfl, by simpa using h0, Nat.le_refl _⟩
  case round =>
    obtain ⟨k, hk, rfl, hJk, hsz⟩ := hrel
    by_cases hlt : k < 4
    · have hl : k < slotsI.length := hlt
      have hsp := Lib.hid (split_at _ k hl)
      have htk := Lib.hid (take_next _ k hl)
      obtain ⟨fn, tmps, assign, body, hy, hR⟩ := hY _ _ _ wr hsp.out hJk hsz
      rw [slotsI_get] at hy
      clear hY
      gi_wp2_with fail
      refine (hR _).mono ?_; rintro e W3 (⟨rfl, hJ3, hs3⟩ | ⟨rfl, hJx3, hs3⟩)
      · gi_wp2
        go_roundw
        case rel => exact ⟨k + 1, by omega, by go_num, by rw [htk.out]; exact hJ3, by omega⟩
        case measure => simp [intOf]; omega
      · gi_wp2
        refine bodyPost_ret (results_none rfl _ _ _) rfl ?_
        exact ⟨⟨_, rfl⟩, .inr hJx3⟩
    · obtain rfl : k = 4 := by omega
      gi_wp2
      go_end0
      exact ⟨⟨_, rfl⟩, .inl (by rw [List.take_of_length_le (by decide)] at hJk; exact hJk)⟩
end Go.Proofs.Ytcgdipkmcgionaa
