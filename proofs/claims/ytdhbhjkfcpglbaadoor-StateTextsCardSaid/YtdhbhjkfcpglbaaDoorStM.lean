/-
  Package slices: All of states; package state: All. Conditions: few states.
-/
import Derived.Test.YtdhbhjkfcpglbaaDoorStL
import Derived.Test.YtdhbhjkfcpglbaaDoorCoreS
import Derived.Scope
import Derived.Stop.RegionWithIn
namespace Go.Proofs.YtdhbhjkfcpglbaaDoor
open Go.RowKit
attribute [local go_sem] Oper.semAt_some
set_option maxHeartbeats 4000000
set_option maxRecDepth 8000

theorem range_get (m k : Nat) (h : k < (List.range m).length) : (List.range m)[k] = k := by simp
theorem range_split {m c : Nat} {pre suf : List Nat} (h : List.range m = pre ++ c :: suf) : c = pre.length ∧ pre.length < m := by
  have h1 : pre.length < (List.range m).length := by rw [h]; simp
  refine ⟨?_, by simpa using h1⟩
  have h2 := range_get m pre.length h1
  rw [List.getElem_of_eq h] at h2
  simpa using h2
theorem plcTo_pre (l : List Int) (x : Int) (a b : Nat) (h : a ≤ b) : ∃ rest, plcTo l x b = plcTo l x a ++ rest := by
  induction b with
  | zero => obtain rfl : a = 0 := by omega
            exact ⟨[], by simp⟩
  | succ b ih =>
    by_cases e : a = b + 1
    · subst e; exact ⟨[], by simp⟩
    · obtain ⟨r, hr⟩ := ih (by omega)
      rw [plcTo]
      split
      · exact ⟨r ++ [(b : Int)], by rw [hr, List.append_assoc]⟩
      · exact ⟨r, hr⟩
theorem plc_split (l : List Int) (x : Int) (k : Nat) (hk : k < l.length) (hx : l.getD k 0 = x) : ∃ suf, plcL l x = plcTo l x k ++ (k : Int) :: suf := by
  obtain ⟨r, hr⟩ := plcTo_pre l x (k + 1) l.length (by omega)
  refine ⟨r, ?_⟩
  unfold plcL
  rw [hr, plcTo, if_pos hx, List.append_assoc]; rfl

theorem sAll_calls (a : Option Addr) (n cap : Nat) (w : World) : Calls Tryd.prog 46 #[.slice a n cap] w fun e w' =>
    e = .returned (.func (.func 58) #[] #[.pointer (some ⟨w.heap.size, 0, none⟩)]) ∧ w' = w.alloc (.cells #[.slice a n cap] 50) := by
  go_enter Tryd.func46, Tryd.ntmps46
  go_wp2_with fail
  go_ret
  exact ⟨rfl, rfl⟩
theorem sAll_iter (ad : Option Addr) (cap : Nat) (l : List Int) (hl : l.length < 1000000) (B bb : Nat) :
    IterK Tryd.prog 58 #[.pointer (some ⟨bb, 0, none⟩)] (fun k : Nat => #[.int .i64 k, .int .i64 (l.getD k 0)]) (List.range l.length)
      (fun W => W.cell? ⟨bb, 0, none⟩ = some (.slice ad l.length cap) ∧ RowAt B W (.slice ad l.length cap) l.length (intVals .i64 l)) := by
  intro L J Jx W hJ hJx hA hY h0
  obtain ⟨c0, _⟩ := hA _ _ h0
  have HA := Lib.hid hA
  clear hA
  refine calls_in Tryd.func58 rfl ?_; simp only [Tryd.ntmps58, List.size_toArray, List.length_cons, List.length_nil, Nat.reduceAdd, Nat.reduceSub, Array.replicate_succ, Array.replicate_zero, List.push_toArray, List.append_toArray, List.nil_append, List.cons_append]
  gi_wp2_with fail
  gi_loopw [7] (fun i wr => ∃ c : Nat, c ≤ l.length ∧ i = .int .i64 c ∧ J ((List.range l.length).take c) wr ∧ W.heap.size ≤ wr.heap.size) (fun i _ => l.length - (intOf i).toNat)
  case atStart => exact ⟨0, by omega, rfl, by simpa using h0, Nat.le_refl _⟩
  case round =>
    obtain ⟨c, hc, rfl, hJc, hsz⟩ := hrel
    obtain ⟨c1, hr⟩ := HA.out _ _ hJc
    by_cases hlt : c < l.length
    · obtain ⟨b, off, rfl, _, q⟩ := hr.geti c hlt
      have hl9 : c < (List.range l.length).length := by simpa using hlt
      have hsp := Lib.hid (split_at _ c hl9)
      have htk := Lib.hid (take_next _ c hl9)
      have i0 : (0 : Int) ≤ c := by omega
      have i1 : (c : Int) < l.length := by omega
      obtain ⟨fn, tmps, assign, body, hy, hR⟩ := hY _ _ _ wr hsp.out hJc hsz
      rw [range_get, show l.getD c 0 = l[c] by simp [List.getD, List.getElem?_eq_getElem hlt]] at hy
      generalize l[c] = y at q hy
      clear hr hY
      gi_wp2_with fail
      refine (hR _).mono ?_; rintro e W3 (⟨rfl, hJ3, hs3⟩ | ⟨rfl, hJx3, hs3⟩)
      · gi_wp2
        go_roundw
        case rel => exact ⟨c + 1, by omega, by go_num, by rw [htk.out]; exact hJ3, by omega⟩
        case measure => simp [intOf]; omega
      · gi_wp2
        refine bodyPost_ret (results_none rfl _ _ _) rfl ?_
        exact ⟨⟨_, rfl⟩, .inr hJx3⟩
    · gi_wp2_with fail
      refine bodyPost_end (results_none rfl _ _ _) rfl ?_
      exact ⟨⟨_, rfl⟩, .inl (by rw [List.take_of_length_le (by simp; omega)] at hJc; exact hJc)⟩
end Go.Proofs.YtdhbhjkfcpglbaaDoor
