/-
  Package slices: All of tenants; package desk: All and its iterator. No condition.
-/
import Derived.Test.YtchknegenaoliaaDeN
import Derived.Test.YtchknegenaoliaaCoreT
import Derived.Scope
import Derived.Stop.RegionWithIn
namespace Go.Proofs.Ytchknegenaoliaa
open Go.RowKit
attribute [local go_sem] Oper.semAt_some
set_option maxHeartbeats 1000000
set_option maxRecDepth 4000

theorem ty71 : RowTy Try.prog 71 16 := rowTy_of Try.underlying71 rfl (by kernel_rfl)
theorem range_get (m k : Nat) (h : k < (List.range m).length) : (List.range m)[k] = k := by simp
theorem range_split {m c : Nat} {pre suf : List Nat} (h : List.range m = pre ++ c :: suf) : c = pre.length ∧ pre.length < m := by
  have h1 : pre.length < (List.range m).length := by rw [h]; simp
  refine ⟨?_, by simpa using h1⟩
  have h2 := range_get m pre.length h1
  rw [List.getElem_of_eq h] at h2
  simpa using h2
/-- The tenants at the first k places. -/
def tenTo (P : List Ten) : Nat → List Hnd
  | 0 => []
  | k + 1 => if (tenD P k).t = true then tenTo P k ++ [⟨k, (tenD P k).g⟩] else tenTo P k
def tenL (P : List Ten) : List Hnd := tenTo P 4
theorem tenTo_len (P : List Ten) : ∀ k, (tenTo P k).length ≤ k
  | 0 => Nat.le_refl _
  | k + 1 => by
    have := tenTo_len P k
    rw [tenTo]
    split
    · simp; omega
    · omega
theorem tenTo_pre (P : List Ten) (a b : Nat) (h : a ≤ b) : ∃ rest, tenTo P b = tenTo P a ++ rest := by
  induction b with
  | zero => obtain rfl : a = 0 := by omega
            exact ⟨[], by simp⟩
  | succ b ih =>
    by_cases e : a = b + 1
    · subst e; exact ⟨[], by simp⟩
    · obtain ⟨r, hr⟩ := ih (by omega)
      rw [tenTo]
      split
      · exact ⟨r ++ [⟨b, (tenD P b).g⟩], by rw [hr, List.append_assoc]⟩
      · exact ⟨r, hr⟩
theorem ten_split (P : List Ten) (k : Nat) (hk : k < 4) (hx : (tenD P k).t = true) : ∃ suf, tenL P = tenTo P k ++ ⟨k, (tenD P k).g⟩ :: suf := by
  obtain ⟨r, hr⟩ := tenTo_pre P (k + 1) 4 (by omega)
  refine ⟨r, ?_⟩
  unfold tenL
  rw [hr, tenTo, if_pos hx, List.append_assoc]; rfl
theorem tensV_get {P : List Ten} (h : P.length = 4) (k : Nat) (hk : k < 4) :
    (tensV P).toArray[k * 4]? = some (.int .i64 (tenD P k).g) ∧ (tensV P).toArray[k * 4 + 1]? = some (.bool (tenD P k).t) ∧ (tensV P).toArray[k * 4 + 2]? = some (.int .i64 (tenD P k).q) ∧ (tensV P).toArray[k * 4 + 3]? = some (.int .i64 (tenD P k).f) := by
  obtain ⟨a, b, c, d, rfl⟩ := four h
  match k, hk with
  | 0, _ => exact ⟨rfl, rfl, rfl, rfl⟩
  | 1, _ => exact ⟨rfl, rfl, rfl, rfl⟩
  | 2, _ => exact ⟨rfl, rfl, rfl, rfl⟩
  | 3, _ => exact ⟨rfl, rfl, rfl, rfl⟩
theorem tensV_len {P : List Ten} (h : P.length = 4) : (tensV P).length = 16 := by obtain ⟨a, b, c, d, rfl⟩ := four h; rfl
theorem tensV_one (P : List Ten) : (tensV P).toArray.all (·.oneCell') = true := by
  rw [Array.all_eq_true_iff_forall_mem]
  intro v hv
  have hv' : v ∈ tensV P := by simpa using hv
  obtain ⟨x, _, hx⟩ := List.mem_flatMap.1 hv'
  unfold tenV at hx
  simp only [List.mem_cons, List.not_mem_nil, or_false] at hx
  rcases hx with rfl | rfl | rfl | rfl <;> rfl
theorem sAll_calls (a : Option Addr) (n cap : Nat) (w : World) : Calls Try.prog 44 #[.slice a n cap] w fun e w' =>
    e = .returned (.func (.func 55) #[] #[.pointer (some ⟨w.heap.size, 0, none⟩)]) ∧ w' = w.alloc (.cells #[.slice a n cap] 97) := by
  go_enter Try.func44, Try.ntmps44
  go_wp2_with fail
  go_ret
  exact ⟨rfl, rfl⟩
/-- Where the rows of All lie. -/
structure AlA (P : List Ten) (box bb : Nat) (W : World) : Prop where
  c : W.cell? ⟨bb, 0, none⟩ = some (.slice (some ⟨box, 0, none⟩) 4 4)
  r : Blk W box (tensV P).toArray 71
theorem sAll_iter {P : List Ten} (hl : P.length = 4) (box bb : Nat) :
    IterK Try.prog 55 #[.pointer (some ⟨bb, 0, none⟩)] (fun k : Nat => #[.int .i64 k, .agg #[.int .i64 (tenD P k).g, .bool (tenD P k).t, .int .i64 (tenD P k).q, .int .i64 (tenD P k).f]]) (List.range 4) (AlA P box bb) := by
  intro L J Jx W hJ hJx hA hY h0
  obtain ⟨c0, _⟩ := hA _ _ h0
  have HA := Lib.hid hA
  have HJ := Lib.hid hJ
  clear hA hJ
  refine calls_in Try.func55 rfl ?_; simp only [Try.ntmps55, List.size_toArray, List.length_cons, List.length_nil, Nat.reduceAdd, Nat.reduceSub, Array.replicate_succ, Array.replicate_zero, List.push_toArray, List.append_toArray, List.nil_append, List.cons_append]
  gi_wp2_with fail
  gi_loopw [7] (fun i wr => ∃ c : Nat, c ≤ 4 ∧ i = .int .i64 c ∧ J ((List.range 4).take c) wr ∧ W.heap.size ≤ wr.heap.size) (fun i _ => 4 - (intOf i).toNat)
  case atStart => exact ⟨0, by omega, rfl, by simpa using h0, Nat.le_refl _⟩
  case round =>
    obtain ⟨c, hc, rfl, hJc, hsz⟩ := hrel
    obtain ⟨c1, hr⟩ := HA.out _ _ hJc
    by_cases hlt : c < 4
    · have hl9 : c < (List.range 4).length := by simpa using hlt
      have hsp := Lib.hid (split_at _ c hl9)
      have htk := Lib.hid (take_next _ c hl9)
      have i0 : (0 : Int) ≤ c := by omega
      have i1 : (c : Int) < 4 := by omega
      obtain ⟨q0, q1, q2, q3⟩ := tensV_get hl c hlt
      replace q0 := hr.cell _ q0
      replace q1 := hr.cell _ q1
      replace q2 := hr.cell _ q2
      replace q3 := hr.cell _ q3
      obtain ⟨w1, hw1⟩ : ∃ w1, wr.alloc (.cells #[.int .i64 (tenD P c).g, .bool (tenD P c).t, .int .i64 (tenD P c).q, .int .i64 (tenD P c).f] 69) = w1 := ⟨_, rfl⟩
      have k1 : Below wr.heap.size wr w1 := by rw [← hw1]; exact (Below.refl _ wr).alloc (Nat.le_refl _) _
      have hX : Blk w1 wr.heap.size #[.int .i64 (tenD P c).g, .bool (tenD P c).t, .int .i64 (tenD P c).q, .int .i64 (tenD P c).f] 69 := by rw [← hw1]; exact Blk.new wr _ _
      have hJ1 := HJ.out _ _ _ hJc (Keeps.of_below k1 hsz (Nat.le_refl _))
      obtain ⟨fn, tmps, assign, body, hy, hR⟩ := hY _ _ _ w1 hsp.out hJ1 (Nat.le_trans hsz k1.size)
      rw [range_get] at hy
      generalize tenD P c = y at q0 q1 q2 q3 hy hX hw1
      have x0 : w1.cell? ⟨wr.heap.size, 0, none⟩ = some (.int .i64 y.g) := hX.cell 0 rfl
      have x1 : w1.cell? ⟨wr.heap.size, 1, none⟩ = some (.bool y.t) := hX.cell 1 rfl
      have x2 : w1.cell? ⟨wr.heap.size, 2, none⟩ = some (.int .i64 y.q) := hX.cell 2 rfl
      have x3 : w1.cell? ⟨wr.heap.size, 3, none⟩ = some (.int .i64 y.f) := hX.cell 3 rfl
      have zz := k1.size
      clear hr hY hX k1 hJ1
      gi_wp2_with fail
      refine (hR _).mono ?_; rintro e W3 (⟨rfl, hJ3, hs3⟩ | ⟨rfl, hJx3, hs3⟩)
      · gi_wp2
        go_roundw
        case rel => exact ⟨c + 1, by omega, by go_num, by rw [htk.out]; exact hJ3, by omega⟩
        case measure => simp [intOf]; omega
      · gi_wp2
        refine bodyPost_ret (results_none rfl _ _ _) rfl ?_
        exact ⟨⟨_, rfl⟩, .inr hJx3⟩
    · gi_wp2_with fail
      refine bodyPost_end (results_none rfl _ _ _) rfl ?_
      exact ⟨⟨_, rfl⟩, .inl (by rw [List.take_of_length_le (by simp; omega)] at hJc; exact hJc)⟩
end Go.Proofs.Ytchknegenaoliaa
